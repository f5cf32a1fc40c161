/- CodeR. Conditions: as each theorem states. -/
import Derived.Test.YtnbbfblaipjcmaaGreatDoorPu19
import Derived.Test.YtnbbfblaipjcmaaGreatDoorPu20
namespace Go.Proofs.YtnbbfblaipjcmaaGreatDoor
def spectraF (l:List Int) (size:Int):List Int:=specsZ (padZ l) (gainsF l size) (countN l.length)
def frZ (l:List Int) (size:Int) (i:Nat):FrameV:=fitF (blockAt (spectraF l size) i) (rowAt 4 (gainsF l size) i) size
def framesZ (l:List Int) (size:Int):List FrameV:=(List.range (countN l.length)).map (frZ l size)
def Samp16 (l:List Int):Prop:=∀ x ∈ l,-32768<=x/\x<=32767
theorem slim_small {x:Int} (h:-8388607<=x/\x<=8388607):slimI x=true:=by
 unfold slimI
 refine decide_eq_true (widthZ_le (k:=23) ?_ ?_)
 all_goals
  unfold absZ
  rw [if_neg (by omega)]
  split <;> omega
theorem spectraF_len (l:List Int) (size:Int):(spectraF l size).length=countN l.length*16:=specsZ_len (padZ_len l)
theorem spectraF_bd {l:List Int} (h:Samp16 l) (size:Int):BdL 2359380 (spectraF l size):=by
 have:=specsZ_bd (M:=32768) (padZ_len l) (gainsF_ok l size) (padZ_bd (fun x hx=>by have:=h x hx; omega) (by omega)) (by omega)
 exact this.mono (by omega)
theorem block_bd {l:List Int} (h:Samp16 l) (size:Int) {i:Nat} (hi:i < countN l.length):BdL 2359380 (blockAt (spectraF l size) i):=blockAt_bd (spectraF_len l size) hi (spectraF_bd h size)
theorem block_slim {l:List Int} (h:Samp16 l) (size:Int) {i:Nat} (hi:i < countN l.length):(blockAt (spectraF l size) i).all slimI=true:=by
 rw [List.all_eq_true]
 intro x hx
 have:=(block_bd h size hi).mem x hx
 exact slim_small (by omega)
theorem frame_err {l:List Int} (h:Samp16 l) {size:Int} (h1:24<=size) (h2:size<=96) {i:Nat} (hi:i < countN l.length):fitErr (blockAt (spectraF l size) i) (rowAt 4 (gainsF l size) i) size=0:=by
 unfold fitErr
 rw [if_neg (by omega),block_slim h size hi,((gainsF_ok l size).2 i hi).2]
 rfl
theorem frame_right {l:List Int} (h:Samp16 l) {size:Int} (h1:24<=size) (h2:size<=96) {i:Nat} (hi:i < countN l.length):RightF (frZ l size i)/\bitsZ (frZ l size i)<=8*size:=by
 have:=fit_right (blockAt_len (spectraF_len l size) hi) ((gainsF_ok l size).2 i hi).1 (frame_err h h1 h2 hi)
 exact ⟨this.1,this.2.1⟩
theorem framesZ_len (l:List Int) (size:Int):(framesZ l size).length=countN l.length:=by simp [framesZ]
theorem framesZ_right {l:List Int} (h:Samp16 l) {size:Int} (h1:24<=size) (h2:size<=96):∀ f ∈ framesZ l size,RightF f/\bitsZ f<=8*size:=fun f hf=>by
 unfold framesZ at hf
 obtain ⟨i,hi,rfl⟩:=List.mem_map.1 hf
 exact frame_right h h1 h2 (List.mem_range.1 hi)
end Go.Proofs.YtnbbfblaipjcmaaGreatDoor

/- CodeR. Conditions: as each theorem states. -/
import Derived.Test.YtgcfkblmnpnogaaGreatDoorPq19
import Derived.Test.YtgcfkblmnpnogaaGreatDoorPq21
namespace Go.Proofs.YtgcfkblmnpnogaaGreatDoor
def spectraF (l:List Int) (size:Int):List Int:=specsZ (padZ l) (gainsF l size) (countN l.length)
def frZ (l:List Int) (size:Int) (i:Nat):FrameV:=fitF (blockAt (spectraF l size) i) (rowAt 4 (gainsF l size) i) size
def framesZ (l:List Int) (size:Int):List FrameV:=(List.range (countN l.length)).map (frZ l size)
def sampsZ (fs:List FrameV) (n:Int):List Int:=(firstZ (wholeZ (fs.map specZ).flatten (fs.map (·.gains)).flatten fs.length) n).map satZ
def Samp16 (l:List Int):Prop:=∀ x ∈ l,-32768<=x/\x<=32767
theorem slim_small {x:Int} (h:-8388607<=x/\x<=8388607):slimI x=true:=by
 unfold slimI
 refine decide_eq_true (widthZ_le (k:=23) ?_ ?_)
 all_goals
  unfold absZ
  rw [if_neg (by omega)]
  split <;> omega
theorem spectraF_len (l:List Int) (size:Int):(spectraF l size).length=countN l.length*16:=specsZ_len (padZ_len l)
theorem spectraF_bd {l:List Int} (h:Samp16 l) (size:Int):BdL 2359380 (spectraF l size):=by
 have:=specsZ_bd (M:=32768) (padZ_len l) (gainsF_ok l size) (padZ_bd (fun x hx=>by have:=h x hx; omega) (by omega)) (by omega)
 exact this.mono (by omega)
theorem block_bd {l:List Int} (h:Samp16 l) (size:Int) {i:Nat} (hi:i < countN l.length):BdL 2359380 (blockAt (spectraF l size) i):=blockAt_bd (spectraF_len l size) hi (spectraF_bd h size)
theorem block_slim {l:List Int} (h:Samp16 l) (size:Int) {i:Nat} (hi:i < countN l.length):(blockAt (spectraF l size) i).all slimI=true:=by
 rw [List.all_eq_true]
 intro x hx
 have:=(block_bd h size hi).mem x hx
 exact slim_small (by omega)
theorem frame_err {l:List Int} (h:Samp16 l) {size:Int} (h1:24<=size) (h2:size<=96) {i:Nat} (hi:i < countN l.length):fitErr (blockAt (spectraF l size) i) (rowAt 4 (gainsF l size) i) size=0:=by
 unfold fitErr
 rw [if_neg (by omega),block_slim h size hi,((gainsF_ok l size).2 i hi).2]
 rfl
theorem frame_right {l:List Int} (h:Samp16 l) {size:Int} (h1:24<=size) (h2:size<=96) {i:Nat} (hi:i < countN l.length):RightF (frZ l size i)/\bitsZ (frZ l size i)<=8*size:=by
 have:=fit_right (blockAt_len (spectraF_len l size) hi) ((gainsF_ok l size).2 i hi).1 (frame_err h h1 h2 hi)
 exact ⟨this.1,this.2.1⟩
theorem framesZ_len (l:List Int) (size:Int):(framesZ l size).length=countN l.length:=by simp [framesZ]
theorem framesZ_right {l:List Int} (h:Samp16 l) {size:Int} (h1:24<=size) (h2:size<=96):∀ f ∈ framesZ l size,RightF f/\bitsZ f<=8*size:=fun f hf=>by
 unfold framesZ at hf
 obtain ⟨i,hi,rfl⟩:=List.mem_map.1 hf
 exact frame_right h h1 h2 (List.mem_range.1 hi)
theorem gains_flat (l:List Int) {size:Int} (h:55<=size) {i:Nat} (hi:i < countN l.length):rowAt 4 (gainsF l size) i=zero4:=by
 have hf:∀ i,(gainsOf l i).length=4:=fun i=>ofTo_len _ 4
 have hl:(rowAt 4 (gainsF l size) i).length=4:=rowAt_len (rowsTo_len hf _) hi
 apply List.ext_getElem?
 intro j
 rcases Nat.lt_or_ge j 4 with hj | hj
 ·rw [rowAt_get _ _ hj]
  unfold gainsF
  rw [if_pos h,rowsTo_get hf hi hj,if_neg (by omega)]
  match j,hj with
  | 0,_ | 1,_ | 2,_ | 3,_=>rfl
 ·rw [List.getElem?_eq_none (by omega),List.getElem?_eq_none (by exact hj)]
theorem frame_exact {l:List Int} (h:Samp16 l) {size:Int} (h1:55<=size) (h2:size<=96) {i:Nat} (hi:i < countN l.length):specZ (frZ l size i)=blockAt (spectraF l size) i/\(frZ l size i).gains=rowAt 4 (gainsF l size) i:=by
 have hb:=blockAt_len (spectraF_len l size) hi
 have e:frZ l size i=exactZ (blockAt (spectraF l size) i):=by
  unfold frZ fitF
  rw [frame_err h (by omega) h2 hi,if_pos rfl,if_pos h1]
 rw [e,gains_flat l h1 hi]
 exact ⟨exact_spec hb (low23 hb (block_slim h size hi)).bd,rfl⟩
theorem sat_id {x:Int} (h:-32768<=x/\x<=32767):satZ x=x:=by
 unfold satZ clampZ
 rw [if_neg (by omega),if_neg (by omega)]
theorem samps_frames {l:List Int} (h:Samp16 l) {size:Int} (h1:55<=size) (h2:size<=96):sampsZ (framesZ l size) l.length=l:=by
 have e1:((framesZ l size).map specZ).flatten=spectraF l size:=by
  unfold framesZ
  rw [List.map_map]
  refine Eq.trans ?_ (flatR_rows (sz:=16) (by decide) (spectraF_len l size))
  exact flatR_congr fun i hi=>(frame_exact h h1 h2 hi).1
 have e2:((framesZ l size).map (·.gains)).flatten=gainsF l size:=by
  unfold framesZ
  rw [List.map_map]
  refine Eq.trans ?_ (flatR_rows (sz:=4) (by decide) (gainsF_ok l size).1)
  exact flatR_congr fun i hi=>(frame_exact h h1 h2 hi).2
 unfold sampsZ
 rw [e1,e2,framesZ_len]
 unfold spectraF
 rw [whole_specs (padZ_len l),firstZ_pad]
 have:l.map satZ=l.map id:=List.map_congr_left fun x hx=>sat_id (h x hx)
 rw [this,List.map_id]
end Go.Proofs.YtgcfkblmnpnogaaGreatDoor

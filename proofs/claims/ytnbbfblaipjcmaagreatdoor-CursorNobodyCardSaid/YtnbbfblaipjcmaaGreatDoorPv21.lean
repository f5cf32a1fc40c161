/- CodeR. Conditions: as each theorem states. -/
import Derived.Test.YtnbbfblaipjcmaaGreatDoorPv18
import Derived.Test.YtnbbfblaipjcmaaGreatDoorPv20
namespace Go.Proofs.YtnbbfblaipjcmaaGreatDoor
def fQ (l:List Int) (size:Int):List Int:=vG (fE l) (fW l size) (aV l.length)
def frZ (l:List Int) (size:Int) (i:Nat):FrameV:=GR (aX (fQ l size) i) (eV 4 (fW l size) i) size
def cO (l:List Int) (size:Int):List FrameV:=(List.range (aV l.length)).map (frZ l size)
def FC (fs:List FrameV) (n:Int):List Int:=(K8 (yU (fs.map cD).flatten (fs.map (·.gains)).flatten fs.length) n).map VO
def mQ (l:List Int):Prop:=∀ x ∈ l,-32768<=x/\x<=32767
theorem VT {x:Int} (h:-8388607<=x/\x<=8388607):pJ x=true:=by
 unfold pJ
 refine decide_eq_true (j8 (k:=23) ?_ ?_)
 all_goals
  unfold eA
  rw [if_neg (by omega)]
  split <;> omega
theorem gK (l:List Int) (size:Int):(fQ l size).length=aV l.length*16:=VX (kP l)
theorem QY {l:List Int} (h:mQ l) (size:Int):BdL 2359380 (fQ l size):=by
 have:=aAw (M:=32768) (kP l) (j3 l size) (XE (fun x hx=>by have:=h x hx; omega) (by omega)) (by omega)
 exact this.mono (by omega)
theorem NI {l:List Int} (h:mQ l) (size:Int) {i:Nat} (hi:i < aV l.length):BdL 2359380 (aX (fQ l size) i):=mT (gK l size) hi (QY h size)
theorem CW {l:List Int} (h:mQ l) (size:Int) {i:Nat} (hi:i < aV l.length):(aX (fQ l size) i).all pJ=true:=by
 rw [List.all_eq_true]
 intro x hx
 have:=(NI h size hi).mem x hx
 exact VT (by omega)
theorem xT {l:List Int} (h:mQ l) {size:Int} (h1:24<=size) (h2:size<=96) {i:Nat} (hi:i < aV l.length):oH (aX (fQ l size) i) (eV 4 (fW l size) i) size=0:=by
 unfold oH
 rw [if_neg (by omega),CW h size hi,((j3 l size).2 i hi).2]
 rfl
theorem zO {l:List Int} (h:mQ l) {size:Int} (h1:24<=size) (h2:size<=96) {i:Nat} (hi:i < aV l.length):RightF (frZ l size i)/\fT (frZ l size i)<=8*size:=by
 have:=Y8 (b6 (gK l size) hi) ((j3 l size).2 i hi).1 (xT h h1 h2 hi)
 exact ⟨this.1,this.2.1⟩
theorem f7 (l:List Int) (size:Int):(cO l size).length=aV l.length:=by simp [cO]
theorem eS {l:List Int} (h:mQ l) {size:Int} (h1:24<=size) (h2:size<=96):∀ f ∈ cO l size,RightF f/\fT f<=8*size:=fun f hf=>by
 unfold cO at hf
 obtain ⟨i,hi,rfl⟩:=List.mem_map.1 hf
 exact zO h h1 h2 (List.mem_range.1 hi)
theorem UQ (l:List Int) {size:Int} (h:55<=size) {i:Nat} (hi:i < aV l.length):eV 4 (fW l size) i=dC:=by
 have hf:∀ i,(jM l i).length=4:=fun i=>mA _ 4
 have hl:(eV 4 (fW l size) i).length=4:=pG (jZ hf _) hi
 apply List.ext_getElem?
 intro j
 rcases Nat.lt_or_ge j 4 with hj | hj
 ·rw [s8 _ _ hj]
  unfold fW
  rw [if_pos h,qM hf hi hj,if_neg (by omega)]
  match j,hj with
  | 0,_ | 1,_ | 2,_ | 3,_=>rfl
 ·rw [List.getElem?_eq_none (by omega),List.getElem?_eq_none (by exact hj)]
theorem zN {l:List Int} (h:mQ l) {size:Int} (h1:55<=size) (h2:size<=96) {i:Nat} (hi:i < aV l.length):cD (frZ l size i)=aX (fQ l size) i/\(frZ l size i).gains=eV 4 (fW l size) i:=by
 have hb:=b6 (gK l size) hi
 have e:frZ l size i=fG (aX (fQ l size) i):=by
  unfold frZ GR
  rw [xT h (by omega) h2 hi,if_pos rfl,if_pos h1]
 rw [e,UQ l h1 hi]
 exact ⟨UD hb (XA hb (CW h size hi)).bd,rfl⟩
theorem aDF {x:Int} (h:-32768<=x/\x<=32767):VO x=x:=by
 unfold VO rP
 rw [if_neg (by omega),if_neg (by omega)]
theorem LY {l:List Int} (h:mQ l) {size:Int} (h1:55<=size) (h2:size<=96):FC (cO l size) l.length=l:=by
 have e1:((cO l size).map cD).flatten=fQ l size:=by
  unfold cO
  rw [List.map_map]
  refine Eq.trans ?_ (p7 (sz:=16) (by decide) (gK l size))
  exact l0 fun i hi=>(zN h h1 h2 hi).1
 have e2:((cO l size).map (·.gains)).flatten=fW l size:=by
  unfold cO
  rw [List.map_map]
  refine Eq.trans ?_ (p7 (sz:=4) (by decide) (j3 l size).1)
  exact l0 fun i hi=>(zN h h1 h2 hi).2
 unfold FC
 rw [e1,e2,f7]
 unfold fQ
 rw [RV (kP l),UH]
 have:l.map VO=l.map id:=List.map_congr_left fun x hx=>aDF (h x hx)
 rw [this,List.map_id]
end Go.Proofs.YtnbbfblaipjcmaaGreatDoor

/- CodeI, CodeP, CodeJ, CodeQ, CodeK. Conditions: as each theorem states. -/
import Derived.Test.YtnbbfblaipjcmaaGreatDoorPu17
import Derived.Test.YtnbbfblaipjcmaaGreatDoorPu16
import Derived.Test.YtnbbfblaipjcmaaGreatDoorPu18
import Derived.Test.YtnbbfblaipjcmaaGreatDoorPu15
namespace Go.Proofs.YtnbbfblaipjcmaaGreatDoor
section
open Go.RowKit
def blockAt (p:List Int) (i:Nat):List Int:=(p.drop (i*16)).take 16
theorem blockAt_len {p:List Int} {c i:Nat} (hp:p.length=c*16) (hi:i < c):(blockAt p i).length=16:=by
 unfold blockAt
 rw [List.length_take,List.length_drop,hp]; omega
def rowsTo (sz c:Nat) (f:Nat->List Int) (m:Nat):List Int:=((List.range c).map fun i=>if i < m then f i else List.replicate sz 0).flatten
theorem rowsTo_get {sz c:Nat} {f:Nat->List Int} (hf:∀ i,(f i).length=sz) {m i j:Nat} (hi:i < c) (hj:j < sz):(rowsTo sz c f m)[i*sz+j]? = if i < m then (f i)[j]? else some 0:=by
 unfold rowsTo
 have hlen:∀ cs ∈ (List.range c).map (fun i=>if i < m then f i else List.replicate sz 0),cs.length=sz:=by
  intro cs hcs
  obtain ⟨k,_,rfl⟩:=List.mem_map.1 hcs
  split
  ·exact hf k
  ·simp
 have key:∀ (css:List (List Int)),(∀ cs ∈ css,cs.length=sz)->∀ i,css.flatten[i*sz+j]? = css[i]?.bind (·[j]?):=by
  intro css
  induction css with
  | nil=>intro _ i; simp
  | cons d r ih =>
   intro h i
   have hd:=h d (by simp)
   cases i with
   | zero=>rw [List.flatten_cons,Nat.zero_mul,Nat.zero_add,List.getElem?_append_left (by omega)]; rfl
   | succ i =>
    rw [List.flatten_cons,List.getElem?_append_right (by rw [hd,Nat.succ_mul]; omega),hd,show (i+1)*sz+j - sz=i*sz+j by rw [Nat.succ_mul]; omega,ih (fun x hx=>h x (by simp [hx]))]
    rfl
 rw [key _ hlen,range_map_get _ hi]
 simp only [Option.bind_some]
 split
 ·rfl
 ·rw [List.getElem?_replicate,if_pos hj]
theorem rowsTo_len {sz c:Nat} {f:Nat->List Int} (hf:∀ i,(f i).length=sz) (m:Nat):(rowsTo sz c f m).length=c*sz:=by
 unfold rowsTo
 rw [List.length_flatten,List.map_map]
 have:(List.range c).map (List.length ∘ fun i=>if i < m then f i else List.replicate sz 0)=List.replicate c sz:=by
  apply List.ext_getElem?
  intro i
  rw [List.getElem?_map,List.getElem?_replicate]
  rcases Nat.lt_or_ge i c with hi | hi
  ·rw [List.getElem?_range hi,if_pos hi]
   simp only [Option.map_some,Function.comp]
   split
   ·rw [hf]
   ·simp
  ·rw [List.getElem?_eq_none (by simpa using hi),if_neg (by omega)]; rfl
 rw [this,List.sum_replicate_nat]
theorem rowsTo_succ {sz c:Nat} {f:Nat->List Int} (hf:∀ i,(f i).length=sz) (hs:0 < sz) {m:Nat} (hm:m < c):putAt (rowsTo sz c f m) (m*sz) (f m)=rowsTo sz c f (m+1):=by
 have hfit:m*sz+(f m).length<=(rowsTo sz c f m).length:=by
  rw [hf,rowsTo_len hf,<-Nat.succ_mul]
  exact Nat.mul_le_mul_right sz hm
 apply List.ext_getElem?
 intro t
 rw [putAt_get hfit,hf]
 rcases Nat.lt_or_ge t (c*sz) with ht | ht
 ·obtain ⟨i,j,hj,hi,e⟩:∃ i j,j < sz/\i < c/\t=i*sz+j:=⟨t / sz,t % sz,Nat.mod_lt _ hs,(Nat.div_lt_iff_lt_mul hs).2 ht,by rw [Nat.mul_comm]; exact (Nat.div_add_mod t sz).symm⟩
  subst e
  rw [rowsTo_get hf hi hj,rowsTo_get hf hi hj]
  by_cases him:i=m
  ·subst him
   rw [if_pos ⟨by omega,by omega⟩,if_pos (by omega)]
   congr 1
   omega
  ·have hne:¬ (m*sz<=i*sz+j/\i*sz+j < m*sz+sz):=by
    intro ⟨h1,h2⟩
    rcases Nat.lt_or_gt_of_ne him with h | h
    ·have:=Nat.mul_le_mul_right sz (show i+1<=m from h)
     rw [Nat.succ_mul] at this
     omega
    ·have:=Nat.mul_le_mul_right sz (show m+1<=i from h)
     rw [Nat.succ_mul] at this
     omega
   rw [if_neg hne]
   by_cases h:i < m
   ·rw [if_pos h,if_pos (by omega)]
   ·rw [if_neg h,if_neg (by omega)]
 ·have h1:c*sz<=t:=ht
  have h2:=Nat.mul_le_mul_right sz (show m+1<=c from hm)
  rw [Nat.succ_mul] at h2
  rw [if_neg (by omega),List.getElem?_eq_none (by rw [rowsTo_len hf]; exact h1),List.getElem?_eq_none (by rw [rowsTo_len hf]; exact h1)]
end
section
theorem bgt_opt (l:List Int) (j:Nat):bgt l j=l[j]?.getD 0:=by unfold bgt; rw [List.getD_eq_getElem?_getD]
theorem get_bgt {l:List Int} {j:Nat} (h:j < l.length):l[j]? = some (bgt l j):=by
 rw [bgt_opt,List.getElem?_eq_getElem h]; rfl
theorem putAt_bgt {l:List Int} {off:Nat} {xs:List Int} (h:off+xs.length<=l.length) (j:Nat):bgt (putAt l off xs) j=if off<=j/\j < off+xs.length then bgt xs (j - off) else bgt l j:=by
 rw [bgt_opt,putAt_get h]
 split
 ·rw [bgt_opt]
 ·rw [bgt_opt]
theorem flipZ_bgt (l:List Int) {n k:Nat} (hk:k < n):bgt (flipZ l n) k=bgt l (n - 1 - k):=bgt_get (range_map_get _ hk)
theorem cut_bgt (l:List Int) (off n:Nat) {k:Nat} (hk:k < n):bgt ((l.drop off).take n) k=bgt l (off+k):=by
 rw [bgt_opt,List.getElem?_take,if_pos hk,List.getElem?_drop,bgt_opt]
def pairTo (fa fb:Int->Int->TurnV->Int) (p:List Int) (m:Nat):List Int:=(List.range p.length).map fun j =>
 if 1<=(j+8) / 16/\(j+8) / 16 < m then (if j < (j+8) / 16*16 then fa (bgt p j) (bgt p ((j+8) / 16*32 - 1 - j)) (turnK ((j+8) / 16*16 - 1 - j)) else fb (bgt p ((j+8) / 16*32 - 1 - j)) (bgt p j) (turnK (j - (j+8) / 16*16))) else bgt p j
def joinTo (p:List Int) (m:Nat):List Int:=pairTo turnA turnB p m
theorem pairTo_len (fa fb:Int->Int->TurnV->Int) (p:List Int) (m:Nat):(pairTo fa fb p m).length=p.length:=by simp [pairTo]
theorem pairTo_bgt (fa fb:Int->Int->TurnV->Int) (p:List Int) (m:Nat) {j:Nat} (hj:j < p.length):bgt (pairTo fa fb p m) j =
  if 1<=(j+8) / 16/\(j+8) / 16 < m then (if j < (j+8) / 16*16 then fa (bgt p j) (bgt p ((j+8) / 16*32 - 1 - j)) (turnK ((j+8) / 16*16 - 1 - j)) else fb (bgt p ((j+8) / 16*32 - 1 - j)) (bgt p j) (turnK (j - (j+8) / 16*16))) else bgt p j:=bgt_get (range_map_get _ hj)
theorem pairTo_one (fa fb:Int->Int->TurnV->Int) (p:List Int) {m:Nat} (hm:m<=1):pairTo fa fb p m=p:=by
 refine bgt_ext (pairTo_len _ _ _ _) rfl (fun j hj=>?_)
 rw [pairTo_bgt _ _ _ _ hj,if_neg (by omega)]
def gA (fa:Int->Int->TurnV->Int) (xs zs:List Int) (o k:Nat):List Int:=(List.range 8).map fun j=>if j < k then fa (bgt xs j) (bgt zs (o+j)) (turnK j) else bgt xs j
def gB (fb:Int->Int->TurnV->Int) (xs zs:List Int) (o k:Nat):List Int:=(List.range zs.length).map fun j=>if o<=j/\j < o+k then fb (bgt xs (j - o)) (bgt zs j) (turnK (j - o)) else bgt zs j
theorem gA_len (fa:Int->Int->TurnV->Int) (xs zs:List Int) (o k:Nat):(gA fa xs zs o k).length=8:=by simp [gA]
theorem gB_len (fb:Int->Int->TurnV->Int) (xs zs:List Int) (o k:Nat):(gB fb xs zs o k).length=zs.length:=by simp [gB]
theorem gA_bgt (fa:Int->Int->TurnV->Int) (xs zs:List Int) (o:Nat) {j:Nat} (hj:j < 8):bgt (gA fa xs zs o 8) j=fa (bgt xs j) (bgt zs (o+j)) (turnK j):=by
 unfold gA
 rw [bgt_get (range_map_get _ hj),if_pos hj]
theorem gB_bgt (fb:Int->Int->TurnV->Int) (xs zs:List Int) (o:Nat) {j:Nat} (hj:j < zs.length):bgt (gB fb xs zs o 8) j=if o<=j/\j < o+8 then fb (bgt xs (j - o)) (bgt zs j) (turnK (j - o)) else bgt zs j:=bgt_get (range_map_get _ hj)
def edge (p:List Int) (o:Nat):List Int:=flipZ ((p.drop (o - 8)).take 8) 8
theorem edge_len (p:List Int) (o:Nat):(edge p o).length=8:=flipZ_len _ _
theorem edge_bgt (p:List Int) {o k:Nat} (ho:8<=o) (hk:k < 8):bgt (edge p o) k=bgt p (o - 1 - k):=by
 unfold edge
 rw [flipZ_bgt _ hk,cut_bgt _ _ _ (by omega),show o - 8+(8 - 1 - k)=o - 1 - k by omega]
def meetZ (fa fb:Int->Int->TurnV->Int) (p:List Int) (o:Nat):List Int:=putAt (gB fb (edge p o) p o 8) (o - 8) (flipZ (gA fa (edge p o) p o 8) 8)
theorem meet_pair (fa fb:Int->Int->TurnV->Int) {p:List Int} {c i:Nat} (hp:p.length=c*16) (h1:1<=i) (hi:i < c):meetZ fa fb (pairTo fa fb p i) (i*16)=pairTo fa fb p (i+1):=by
 have hq:=pairTo_len fa fb p i
 have hfit:i*16 - 8+(flipZ (gA fa (edge (pairTo fa fb p i) (i*16)) (pairTo fa fb p i) (i*16) 8) 8).length<=(gB fb (edge (pairTo fa fb p i) (i*16)) (pairTo fa fb p i) (i*16) 8).length:=by
  rw [flipZ_len,gB_len,hq,hp]; omega
 have hlow:∀ j,j < p.length->i<=(j+8) / 16->bgt (pairTo fa fb p i) j=bgt p j:=fun j hj h=>by rw [pairTo_bgt _ _ _ _ hj,if_neg (by omega)]
 refine bgt_ext (n:=p.length) ?_ (pairTo_len _ _ _ _) (fun j hj=>?_)
 ·unfold meetZ
  rw [putAt_len hfit,gB_len,hq]
 ·unfold meetZ
  rw [putAt_bgt hfit,flipZ_len,pairTo_bgt _ _ _ _ hj]
  by_cases ha:i*16 - 8<=j/\j < i*16 - 8+8
  ·have ho:(j+8) / 16=i:=by omega
   rw [if_pos ha,ho,if_pos (by omega),if_pos (by omega),flipZ_bgt _ (by omega),gA_bgt _ _ _ _ (by omega),edge_bgt _ (by omega) (by omega),show i*16 - 1 - (8 - 1 - (j - (i*16 - 8)))=j by omega,
    show i*16+(8 - 1 - (j - (i*16 - 8)))=i*32 - 1 - j by omega,show 8 - 1 - (j - (i*16 - 8))=i*16 - 1 - j by omega,hlow j hj (by omega),hlow (i*32 - 1 - j) (by omega) (by omega)]
  ·rw [if_neg ha,gB_bgt _ _ _ _ (by rw [hq]; exact hj)]
   by_cases hb:i*16<=j/\j < i*16+8
   ·have ho:(j+8) / 16=i:=by omega
    rw [if_pos hb,ho,if_pos (by omega),if_neg (by omega),edge_bgt _ (by omega) (by omega),show i*16 - 1 - (j - i*16)=i*32 - 1 - j by omega,hlow j hj (by omega),hlow (i*32 - 1 - j) (by omega) (by omega)]
   ·rw [if_neg hb,pairTo_bgt _ _ _ _ hj]
    have hne:(j+8) / 16 ≠ i:=by omega
    by_cases hc:1<=(j+8) / 16/\(j+8) / 16 < i
    ·rw [if_pos hc,if_pos (show 1<=(j+8) / 16/\(j+8) / 16 < i+1 by omega)]
    ·rw [if_neg hc,if_neg (show ¬ (1<=(j+8) / 16/\(j+8) / 16 < i+1) by omega)]
def BdL (M:Int) (p:List Int):Prop:=∀ j,j < p.length->-M<=bgt p j/\bgt p j<=M
theorem BdL.mono {M N:Int} {p:List Int} (h:BdL M p) (hn:M<=N):BdL N p:=fun j hj=>by have:=h j hj; omega
theorem BdL.turnB {M:Int} {p:List Int} (h:BdL M p) (hM:M<=1099511627776):TurnB p:=fun k x hx=>by
 have:=h k (List.getElem?_eq_some_iff.1 hx).1
 rw [bgt_get hx] at this
 omega
theorem BdL.mem {M:Int} {p:List Int} (h:BdL M p):∀ x ∈ p,-M<=x/\x<=M:=fun x hx=>by
 obtain ⟨j,hj⟩:=List.mem_iff_getElem?.1 hx
 have:=h j (List.getElem?_eq_some_iff.1 hj).1
 rw [bgt_get hj] at this
 exact this
theorem BdL.within {M:Int} {b:List Int} (h:BdL M b) (hb:b.length=16):Within M b:=fun k hk=>h k (by omega)
theorem within_bdl {M:Int} {b:List Int} (h:Within M b) (hb:b.length=16):BdL M b:=fun j hj=>h j (by omega)
theorem pairTo_bd {fa fb : Int → Int → TurnV → Int} (hf : ∀ (k : Nat), k < 8 → ∀ (a b M : Int), -M ≤ a → a ≤ M → -M ≤ b → b ≤ M →
      (-(3 * M + 8) ≤ 2 * fa a b (turnK k) ∧ 2 * fa a b (turnK k) ≤ 3 * M + 8) ∧ (-(3 * M + 8) ≤ 2 * fb a b (turnK k) ∧ 2 * fb a b (turnK k) ≤ 3 * M + 8))
    {M N : Int} {p : List Int} {c m : Nat} (hp : p.length = c * 16) (hm : m ≤ c) (h : BdL M p) (hN : 3 * M + 8 ≤ 2 * N) (hMN : M ≤ N) : BdL N (pairTo fa fb p m) := by
  intro j hj
  rw [pairTo_len] at hj
  rw [pairTo_bgt _ _ _ _ hj]
  have h0 := h j hj
  split
  · rename_i h1
    have h2 := h ((j + 8) / 16 * 32 - 1 - j) (by omega)
    split
    · have := (hf ((j + 8) / 16 * 16 - 1 - j) (by omega) _ _ M h0.1 h0.2 h2.1 h2.2).1
      omega
    · have := (hf (j - (j + 8) / 16 * 16) (by omega) _ _ M h2.1 h2.2 h0.1 h0.2).2
      omega
  · omega
theorem joinTo_bd {M N:Int} {p:List Int} {c m:Nat} (hp:p.length=c*16) (hm:m<=c) (h:BdL M p) (hN:3*M+8<=2*N) (hMN:M<=N):BdL N (joinTo p m):=pairTo_bd turn_bd hp hm h hN hMN
/-! Rows of blocks. -/
def flatR (c:Nat) (R:Nat->List Int):List Int:=((List.range c).map R).flatten
theorem flatR_get {sz c:Nat} {R:Nat->List Int} (hR:∀ i,i < c->(R i).length=sz) {i j:Nat} (hi:i < c) (hj:j < sz):(flatR c R)[i*sz+j]? = (R i)[j]?:=by
 unfold flatR
 have hlen:∀ cs ∈ (List.range c).map R,cs.length=sz:=by
  intro cs hcs
  obtain ⟨k,hk,rfl⟩:=List.mem_map.1 hcs
  exact hR k (List.mem_range.1 hk)
 have key:∀ (css:List (List Int)),(∀ cs ∈ css,cs.length=sz)->∀ i,css.flatten[i*sz+j]? = css[i]?.bind (·[j]?):=by
  intro css
  induction css with
  | nil=>intro _ i; simp
  | cons d r ih =>
   intro h i
   have hd:=h d (by simp)
   cases i with
   | zero=>rw [List.flatten_cons,Nat.zero_mul,Nat.zero_add,List.getElem?_append_left (by omega)]; rfl
   | succ i =>
    rw [List.flatten_cons,List.getElem?_append_right (by rw [hd,Nat.succ_mul]; omega),hd,show (i+1)*sz+j - sz=i*sz+j by rw [Nat.succ_mul]; omega,ih (fun x hx=>h x (by simp [hx]))]
    rfl
 rw [key _ hlen,range_map_get _ hi]
 rfl
theorem flatR_len {sz c:Nat} {R:Nat->List Int} (hR:∀ i,i < c->(R i).length=sz):(flatR c R).length=c*sz:=by
 unfold flatR
 rw [List.length_flatten,List.map_map]
 have:(List.range c).map (List.length ∘ R)=List.replicate c sz:=by
  apply List.ext_getElem?
  intro i
  rw [List.getElem?_map,List.getElem?_replicate]
  rcases Nat.lt_or_ge i c with hi | hi
  ·rw [List.getElem?_range hi,if_pos hi]
   simp only [Option.map_some,Function.comp,hR i hi]
  ·rw [List.getElem?_eq_none (by simpa using hi),if_neg (by omega)]; rfl
 rw [this,List.sum_replicate_nat]
theorem row_ext {sz c:Nat} {a b:List Int} (hs:0 < sz) (ha:a.length=c*sz) (hb:b.length=c*sz) (h:∀ i j,i < c->j < sz->a[i*sz+j]? = b[i*sz+j]?):a=b:=by
 apply List.ext_getElem?
 intro t
 rcases Nat.lt_or_ge t (c*sz) with ht | ht
 ·obtain ⟨i,j,hj,hi,e⟩:∃ i j,j < sz/\i < c/\t=i*sz+j:=⟨t / sz,t % sz,Nat.mod_lt _ hs,(Nat.div_lt_iff_lt_mul hs).2 ht,by rw [Nat.mul_comm]; exact (Nat.div_add_mod t sz).symm⟩
  subst e
  exact h i j hi hj
 ·rw [List.getElem?_eq_none (by omega),List.getElem?_eq_none (by omega)]
def rowAt (sz:Nat) (p:List Int) (i:Nat):List Int:=(p.drop (i*sz)).take sz
theorem rowAt_get {sz:Nat} (p:List Int) (i:Nat) {j:Nat} (hj:j < sz):(rowAt sz p i)[j]? = p[i*sz+j]?:=by
 unfold rowAt
 rw [List.getElem?_take,if_pos hj,List.getElem?_drop]
theorem row_fit {sz c i:Nat} (hi:i < c):i*sz+sz<=c*sz:=by
 have:=Nat.mul_le_mul_right sz (show i+1<=c from hi)
 rwa [Nat.succ_mul] at this
theorem rowAt_len {sz:Nat} {p:List Int} {c i:Nat} (hp:p.length=c*sz) (hi:i < c):(rowAt sz p i).length=sz:=by
 have:=row_fit (sz:=sz) hi
 unfold rowAt
 rw [List.length_take,List.length_drop,hp]; omega
theorem rowAt_flatR {sz c:Nat} {R:Nat->List Int} (hR:∀ i,i < c->(R i).length=sz) {i:Nat} (hi:i < c):rowAt sz (flatR c R) i=R i:=by
 apply List.ext_getElem?
 intro j
 rcases Nat.lt_or_ge j sz with hj | hj
 ·rw [rowAt_get _ _ hj,flatR_get hR hi hj]
 ·rw [List.getElem?_eq_none (by rw [rowAt_len (flatR_len hR) hi]; exact hj),List.getElem?_eq_none (by rw [hR i hi]; exact hj)]
theorem flatR_rows {sz c:Nat} {p:List Int} (hs:0 < sz) (hp:p.length=c*sz):flatR c (rowAt sz p)=p :=
 row_ext hs (flatR_len fun i hi=>rowAt_len hp hi) hp fun i j hi hj=>by rw [flatR_get (fun i hi=>rowAt_len hp hi) hi hj,rowAt_get _ _ hj]
theorem flatR_congr {c:Nat} {R S:Nat->List Int} (h:∀ i,i < c->R i=S i):flatR c R=flatR c S:=by
 unfold flatR
 congr 1
 apply List.map_congr_left
 intro i hi
 exact h i (List.mem_range.1 hi)
theorem flatR_put {sz c:Nat} {R:Nat->List Int} (hs:0 < sz) (hR:∀ i,i < c->(R i).length=sz) {m:Nat} (hm:m < c) {x:List Int} (hx:x.length=sz):putAt (flatR c R) (m*sz) x=flatR c (fun i=>if i=m then x else R i):=by
 have hR2:∀ i,i < c->((fun i=>if i=m then x else R i) i).length=sz:=fun i hi=>by
  show (if i=m then x else R i).length=sz
  split
  ·exact hx
  ·exact hR i hi
 have hfit:m*sz+x.length<=(flatR c R).length:=by rw [hx,flatR_len hR]; exact row_fit hm
 refine row_ext hs (by rw [putAt_len hfit,flatR_len hR]) (flatR_len hR2) (fun i j hi hj=>?_)
 rw [putAt_get hfit,hx,flatR_get hR2 hi hj,flatR_get hR hi hj]
 show _=(if i=m then x else R i)[j]?
 by_cases him:i=m
 ·subst him
  rw [if_pos ⟨by omega,by omega⟩,if_pos rfl]
  congr 1
  omega
 ·have hne:¬ (m*sz<=i*sz+j/\i*sz+j < m*sz+sz):=by
   intro ⟨h1,h2⟩
   rcases Nat.lt_or_gt_of_ne him with h | h
   ·have:=Nat.mul_le_mul_right sz (show i+1<=m from h)
    rw [Nat.succ_mul] at this
    omega
   ·have:=Nat.mul_le_mul_right sz (show m+1<=i from h)
    rw [Nat.succ_mul] at this
    omega
  rw [if_neg hne,if_neg him]
def blkTo (f:Nat->List Int->List Int) (p:List Int) (c m:Nat):List Int:=flatR c fun i=>if i < m then f i (blockAt p i) else blockAt p i
section
variable {f : Nat → List Int → List Int} {p : List Int} {c : Nat}
theorem blkTo_rows (hf:∀ i b,i < c->b.length=16->(f i b).length=16) (hp:p.length=c*16) (m:Nat):∀ i,i < c->(if i < m then f i (blockAt p i) else blockAt p i).length=16:=fun i hi=>by
 split
 ·exact hf i _ hi (blockAt_len hp hi)
 ·exact blockAt_len hp hi
theorem blkTo_len (hf:∀ i b,i < c->b.length=16->(f i b).length=16) (hp:p.length=c*16) (m:Nat):(blkTo f p c m).length=c*16:=flatR_len (blkTo_rows hf hp m)
theorem blkTo_zero (hp:p.length=c*16):blkTo f p c 0=p:=by
 refine Eq.trans ?_ (flatR_rows (by decide) hp)
 exact flatR_congr fun i _=>if_neg (by omega)
theorem blkTo_at (hf:∀ i b,i < c->b.length=16->(f i b).length=16) (hp:p.length=c*16) (m:Nat) {i:Nat} (hi:i < c):blockAt (blkTo f p c m) i=if i < m then f i (blockAt p i) else blockAt p i:=rowAt_flatR (sz:=16) (blkTo_rows hf hp m) hi
theorem blkTo_succ (hf:∀ i b,i < c->b.length=16->(f i b).length=16) (hp:p.length=c*16) {m:Nat} (hm:m < c):putAt (blkTo f p c m) (m*16) (f m (blockAt p m))=blkTo f p c (m+1):=by
 unfold blkTo
 rw [flatR_put (by decide) (blkTo_rows hf hp m) hm (hf m _ hm (blockAt_len hp hm))]
 apply flatR_congr
 intro i hi
 by_cases h:i=m
 ·subst h; rw [if_pos rfl,if_pos (by omega)]
 ·rw [if_neg h]
  by_cases h2:i < m
  ·rw [if_pos h2,if_pos (by omega)]
  ·rw [if_neg h2,if_neg (by omega)]
end
theorem blockAt_bd {M:Int} {p:List Int} {c i:Nat} (hp:p.length=c*16) (hi:i < c) (h:BdL M p):BdL M (blockAt p i):=fun j hj=>by
 have hb:=blockAt_len hp hi
 rw [show blockAt p i=(p.drop (i*16)).take 16 from rfl,cut_bgt _ _ _ (by omega)]
 exact h _ (by omega)
theorem flatR_bd {M:Int} {c:Nat} {R:Nat->List Int} (hR:∀ i,i < c->(R i).length=16) (h:∀ i,i < c->BdL M (R i)):BdL M (flatR c R):=fun t ht=>by
 rw [flatR_len hR] at ht
 obtain ⟨i,j,hj,hi,e⟩:∃ i j,j < 16/\i < c/\t=i*16+j:=⟨t / 16,t % 16,by omega,by omega,by omega⟩
 subst e
 have e2:bgt (flatR c R) (i*16+j)=bgt (R i) j:=by rw [bgt_opt,flatR_get hR hi hj,bgt_opt]
 rw [e2]
 exact h i hi j (by rw [hR i hi]; exact hj)
theorem blkTo_bd {M N:Int} {f:Nat->List Int->List Int} {p:List Int} {c m:Nat} (hf:∀ i b,i < c->b.length=16->(f i b).length=16) (hp:p.length=c*16) (h:BdL M p) (hMN:M<=N)
  (hb:∀ i b,i < c->b.length=16->BdL M b->BdL N (f i b)):BdL N (blkTo f p c m):=by
 refine flatR_bd (blkTo_rows hf hp m) (fun i hi=>?_)
 split
 ·exact hb i _ hi (blockAt_len hp hi) (blockAt_bd hp hi h)
 ·exact (blockAt_bd hp hi h).mono hMN
theorem fwdZ_len (b:List Int):(fwdZ b).length=16:=netR_len _ _
theorem fwdZ_bd {M N:Int} {b:List Int} (hb:b.length=16) (h:BdL M b) (hM:0<=M) (hN:6*M+60<=N):BdL N (fwdZ b):=by
 have h1:=netR_half (N:=(3*M+9) / 2) (h.within hb) (by omega) (r:=0) (by omega)
 have h2:=netR_half (N:=(9*M+56) / 4) h1 (by omega) (r:=1) (by omega)
 have h3:=netR_half (N:=(27*M+238) / 8) h2 (by omega) (r:=2) (by omega)
 have h4:=netR_half (N:=N) h3 (by omega) (r:=3) (by omega)
 exact within_bdl h4 (fwdZ_len b)
end
section
open Go.Lib (hid)
open Go.RowKit
theorem rowsTo_zero (sz c:Nat) (f:Nat->List Int):(rowsTo sz c f 0).map (Value.int .i64)=List.replicate (c*sz) (.int .i64 0):=by
 have:rowsTo sz c f 0=List.replicate (c*sz) 0:=by
  unfold rowsTo
  have:(List.range c).map (fun i=>if i < 0 then f i else List.replicate sz (0:Int))=List.replicate c (List.replicate sz 0):=by
   apply List.ext_getElem?
   intro i
   rw [List.getElem?_map,List.getElem?_replicate]
   rcases Nat.lt_or_ge i c with hi | hi
   ·rw [List.getElem?_range hi,if_pos hi]; simp
   ·rw [List.getElem?_eq_none (by simpa using hi),if_neg (by omega)]; rfl
  rw [this,List.flatten_replicate_replicate]
 rw [this,List.map_replicate]
def gainsOf (l:List Int):Nat->List Int:=fun i=>ofZ (blockAt (padZ l) i)
def gainsF (l:List Int) (size:Int):List Int:=rowsTo 4 (countN l.length) (gainsOf l) (if 55<=size then 0 else countN l.length)
theorem padZ_len (l:List Int):(padZ l).length=countN l.length*16:=by simp [padZ]
theorem padZ_turn {l:List Int} (h:TurnB l) (i:Nat):TurnB (blockAt (padZ l) i):=by
 intro k x hx
 have hx2:x ∈ padZ l:=quarter_mem x (List.mem_of_getElem? hx)
 unfold padZ at hx2
 obtain ⟨j,_,rfl⟩:=List.mem_map.1 hx2
 rcases Nat.lt_or_ge j l.length with hj | hj
 ·have:=h j _ (List.getElem?_eq_getElem hj)
  rw [bgt_get (List.getElem?_eq_getElem hj)]
  exact this
 ·rw [bgt_out hj]; omega
theorem inf_4:(Tryz.prog.info? 45).map (fun i=>(i.zero,i.size,i.bytes))=some (some (.agg (List.replicate 4 (Value.int .i64 0)).toArray),4,32):=by kernel_rfl
def NewGains (W:World) (c:Nat) (xs:List Int) (e:Ending) (w':World):Prop :=
 ∃ g,e=.returned (.slice (some ⟨g,0,none⟩) c c)/\W.heap.size<=g/\Blk w' g 45 (xs.map (.int .i64))/\Below W.heap.size W w'
set_option maxRecDepth 100000 in
set_option maxHeartbeats 4000000 in
theorem Gains_any (gc:Nat) (size:Int) (l:List Int) (A:Option Addr) (cap:Nat) (w:World) (hg:CoderAt w gc size) (hl:l.length<=1000000) (hr:Row w w.heap.size A (l.map (.int .i64))) (ht:TurnB l) :
  Calls Tryz.prog 202 #[.pointer (some ⟨gc,0,none⟩),.slice A l.length cap] w (NewGains w (countN l.length) (gainsF l size)):=by
 unfold NewGains gainsF
 have Hr:=hid hr
 have HCn:=hid (fun W=>Count_any l.length W (by omega))
 have HBl:=hid (fun W (hW:Below w.heap.size w W)=>Blocks_any l A cap W (by omega) (hr.later hW))
 have HOf:=hid (fun i W (hi:i < countN l.length)=>Of_any (blockAt (padZ l) i) W (blockAt_len (padZ_len l) hi) (padZ_turn ht i))
 have HOl:=hid (fun i=>(show (gainsOf l i).length=4 from ofTo_len _ 4))
 have HBk:=hid (fun i (hi:i < countN l.length)=>blockAt_len (padZ_len l) hi)
 have hcc:countN l.length<=1000000:=by unfold countN; omega
 have Hpl:=hid (padZ_len l)
 obtain ⟨n,hn⟩:∃ n,l.length=n:=⟨_,rfl⟩
 rw [hn] at hl hcc HCn HBl HOf HBk Hpl ⊢
 generalize countN n=c at *
 obtain ⟨i0,hi,hz0,hz1,hz2⟩:∃ i,Tryz.prog.info? 45=some i/\i.zero=some (.agg (List.replicate 4 (Value.int .i64 0)).toArray)/\i.size=4/\i.bytes=32:=by
  have:=inf_4
  cases h:Tryz.prog.info? 45 with
  | none=>rw [h] at this; cases this
  | some i =>
   rw [h] at this
   simp only [Option.map_some,Option.some.injEq,Prod.mk.injEq] at this
   exact ⟨i,rfl,this.1,this.2.1,this.2.2⟩
 have Hms:=hid (show (madeCells (Value.agg (List.replicate 4 (Value.int .i64 0)).toArray).cells (c*4)).toList=List.replicate (c*4) (.int .i64 0) from toList_made_rep _ _ (by decide) (fun j hj=>by
  have hj16:j < 4:=hj
  have hk:j=0\/j=1\/j=2\/j=3:=by omega
  rcases hk with rfl | rfl | rfl | rfl <;> rfl) _)
 obtain ⟨mc,hmc⟩:∃ mc,madeCells (Value.agg (List.replicate 4 (Value.int .i64 0)).toArray).cells (c*4)=mc:=⟨_,rfl⟩
 rw [hmc] at Hms
 have hmc2:mc=((rowsTo 4 c (gainsOf l) 0).map (Value.int .i64)).toArray:=by
  apply Array.toList_inj.1
  rw [Hms.out,rowsTo_zero]
 have HB0:=hid (show Blk (w.alloc (.cells mc 45)) w.heap.size 45 ((rowsTo 4 c (gainsOf l) 0).map (.int .i64)) by rw [hmc2]; exact Blk.new w _ _)
 have HX:=hid (CExact_any gc size (w.alloc (.cells mc 45)) (hkeep hg (bnew w _)))
 clear hr hn hmc2 Hms hg ht
 by_cases h55:55<=size
 ·rw [if_pos h55]
  have e1:decide (55<=size)=true:=decide_eq_true h55
  rw [e1] at HX
  go_enter Tryz.func202,Tryz.ntmps202
  go_wp2_with (first | (go_at_call 90; refine (HCn.out _).mono ?_; rintro e w1 ⟨rfl,rfl⟩) | (refine wpList_make_rows w rfl (.tmp 10) (.tmp 10) 263 rfl 45 i0 (.agg (List.replicate 4 (Value.int .i64 0)).toArray) 4 Tryz.underlying263 hi hz0 hz1 .i64 .i64 c rfl rfl (by rw [hz2]; omega) (by omega) ?_; rw [hmc]) | (go_at_call 231; refine HX.out.mono ?_; rintro e w1 ⟨rfl,rfl⟩))
  go_ret
  exact ⟨w.heap.size,rfl,Nat.le_refl _,HB0.out,bnew w _⟩
 ·rw [if_neg h55]
  have e1:decide (55<=size)=false:=decide_eq_false h55
  rw [e1] at HX
  go_enter Tryz.func202,Tryz.ntmps202
  go_wp2_with (first | (go_at_call 90; refine (HCn.out _).mono ?_; rintro e w1 ⟨rfl,rfl⟩) | (refine wpList_make_rows w rfl (.tmp 10) (.tmp 10) 263 rfl 45 i0 (.agg (List.replicate 4 (Value.int .i64 0)).toArray) 4 Tryz.underlying263 hi hz0 hz1 .i64 .i64 c rfl rfl (by rw [hz2]; omega) (by omega) ?_; rw [hmc]) | (go_at_call 231; refine HX.out.mono ?_; rintro e w1 ⟨rfl,rfl⟩) | (go_at_call 232; fail))
  refine (HBl.out _ (bnew w _)).mono ?_
  rintro e w2 ⟨gb,rfl,hgb,hbb,hb2⟩
  have HG2:=hid (HB0.out.below hb2 HB0.out.lt)
  have HP2:=hid hbb
  have HB2:=hid (bnext (bnew w _) hb2)
  have hne:gb ≠ w.heap.size:=by simp at hgb; omega
  have hgbw:w.heap.size < gb:=by simp at hgb; omega
  clear hb2 hbb hgb HB0 HX
  go_wp2
  go_loopw [18] (fun i wr=>∃ m:Nat,m<=c/\i=.int .i64 m/\Blk wr w.heap.size 45 ((rowsTo 4 c (gainsOf l) m).map (.int .i64))/\Blk wr gb 48 ((padZ l).map (.int .i64))/\Below w.heap.size w wr) (fun i _=>c - (intOf i).toNat)
  case atStart=>exact ⟨0,by omega,rfl,HG2.out,HP2.out,HB2.out⟩
  case round =>
   obtain ⟨m,hm,rfl,hG,hP,hbel⟩:=hrel
   have HG:=hid hG
   have HP:=hid hP
   have Hbel:=hid hbel
   clear HG2 HP2 HB2 hG hP hbel
   by_cases hlk:m < c
   ·have t1:(m:Int) < (c:Int):=by omega
    have HO:=hid (fun W=>HOf.out m W hlk)
    have HS:=hid (rowsTo_succ HOl.out (by omega) hlk)
    have hbl:=HBk.out m hlk
    have hgl:=HOl.out m
    have hrl:=rowsTo_len HOl.out (sz:=4) (c:=c) m
    have HX:=hid (fun (j:Nat) (v:Value) (hv:((blockAt (padZ l) m).map (Value.int .i64))[j]? = some v)=>(show wr.cell? ⟨gb,m*16+j,none⟩=some v by
     rw [HP.out.cell,List.getElem?_map]
     rw [List.getElem?_map] at hv
     unfold blockAt at hv
     rw [List.getElem?_take] at hv
     split at hv
     ·rw [List.getElem?_drop] at hv; exact hv
     ·cases hv))
    have HGo:=hid (show gainsOf l m=ofZ (blockAt (padZ l) m) from rfl)
    rw [HGo.out] at HS hgl
    obtain ⟨R1,hR1⟩:∃ R1,rowsTo 4 c (gainsOf l) (m+1)=R1:=⟨_,rfl⟩
    have HR1:=hid hR1
    rw [hR1] at HS
    clear hR1
    generalize rowsTo 4 c (gainsOf l) m=R0 at *
    unfold blockV at HO
    have Hy1:=hid (fun u (hu:u ∈ (ofZ (blockAt (padZ l) m)).map (Value.int .i64))=>(show u.oneCell'=true by
     obtain ⟨y,_,rfl⟩:=List.mem_map.1 hu
     rfl))
    have HSm:=hid (show (putAt R0 (m*4) (ofZ (blockAt (padZ l) m))).map (Value.int .i64)=R1.map (.int .i64) by rw [HS.out])
    rw [putAt_map] at HSm
    have hxl:((blockAt (padZ l) m).map (Value.int .i64)).length=16:=by rw [List.length_map,hbl]
    have hyl:((ofZ (blockAt (padZ l) m)).map (Value.int .i64)).length=4:=by rw [List.length_map,hgl]
    have hx1:=ints_one (blockAt (padZ l) m)
    generalize (blockAt (padZ l) m).map (Value.int .i64)=xs at *
    generalize (ofZ (blockAt (padZ l) m)).map (Value.int .i64)=ys at *
    have HFx:=hid (show (Tryz.prog.info? 48).map (·.size)=some xs.length by rw [hxl]; exact inf_block)
    have HFa:=hid (show (Tryz.prog.info? 48).map (·.size)=some xs.toArray.size by rw [List.size_toArray,hxl]; exact inf_block)
    have HFy:=hid (show (Tryz.prog.info? 45).map (·.size)=some ys.length by rw [hyl]; exact inf_four)
    have Hxl:=hid hxl
    have Hx1:=hid hx1
    have Hrl:=hid (show m*4+ys.length<=(R0.map (Value.int .i64)).length by rw [hyl,List.length_map,hrl]; omega)
    clear hxl hyl hx1 hbl hgl hrl HS HGo
    have HN:=hid (heap_alloc_new wr (.cells xs.toArray 48))
    go_wp2_with (first | (go_at_call 233; fail) | (refine wpList_load_part_w rfl 48 (.tmp 21) rfl gb (m*16) rfl xs _ HX.out Tryz.underlying48 rfl HFx.out ?_) | (refine wpList_store_row_w rfl 48 (.tmp 7) (.tmp 22) rfl wr.heap.size rfl _ _ xs.toArray rfl (heap_alloc_new wr _) HFa.out (by show (16:Nat)=_; rw [List.size_toArray,Hxl.out]) Hx1.out ?_; rw [World.setRow_alloc_new]) | (refine wpList_load_row_w rfl 48 (.tmp 7) rfl wr.heap.size rfl _ xs.toArray _ _ HN.out Tryz.underlying48 rfl HFa.out ?_))
    refine (HO.out _).mono ?_
    rintro e w3 ⟨rfl,hb3⟩
    have hb4:=bnext (bnew wr (.cells xs.toArray 48)) hb3
    have G3:=hid (HG.out.below hb4 HG.out.lt)
    have P3:=hid (HP.out.below hb4 HP.out.lt)
    have L3:=hid (bnext Hbel.out hb4)
    clear hb3 hb4
    go_wp2_with (refine wpList_store_part_w rfl 45 (.tmp 27) (.tmp 26) rfl w.heap.size (m*4) rfl _ _ ys rfl G3.out HFy.out Hrl.out Hy1.out ?_; rw [HSm.out])
    go_roundw
    case rel=>exact ⟨m+1,by omega,by go_num,by rw [HR1.out]; exact setRow_at w3 _ _ _ _ G3.out,(setRow_other _ _ _ _ (by omega)).trans P3.out,setRow_below L3.out _ (by omega) _⟩
    case measure=>simp [intOf]; omega
   ·have hmc:m=c:=by omega
    have t1:¬ ((m:Int) < (c:Int)):=by omega
    subst hmc
    go_wp2
    go_ret
    exact ⟨w.heap.size,rfl,Nat.le_refl _,HG.out,Hbel.out⟩
end
section
def upF (gs:List Int) (i:Nat) (b:List Int):List Int:=valuesTo b (rowAt 4 gs i) 16
def GainsOk (gs:List Int) (c:Nat):Prop:=gs.length=c*4/\∀ i,i < c->GainB (rowAt 4 gs i)
theorem up_bd {M:Int} {b g:List Int} (hb:b.length=16) (hg:GainB g) (h:BdL M b):BdL (8*M) (valuesTo b g 16):=by
 intro j hj
 rw [valuesTo_len] at hj
 rw [valuesTo_bgt _ _ hj,if_pos hj]
 have h1:=h j (by omega)
 obtain ⟨x,hx⟩:=list_get (k:=j / 4) hg.1 (by omega)
 have h2:=hg.get hx
 rw [bgt_get hx]
 obtain ⟨k,hk⟩:∃ k,x.toNat=k:=⟨_,rfl⟩
 rw [hk]
 have hk4:k=0\/k=1\/k=2\/k=3:=by omega
 rcases hk4 with rfl | rfl | rfl | rfl
 ·rw [show (2:Int) ^ 0=1 by decide]; omega
 ·rw [show (2:Int) ^ 1=2 by decide]; omega
 ·rw [show (2:Int) ^ 2=4 by decide]; omega
 ·rw [show (2:Int) ^ 3=8 by decide]; omega
def upsZ (p gs:List Int) (c:Nat):List Int:=blkTo (upF gs) p c c
def specsZ (p gs:List Int) (c:Nat):List Int:=blkTo (fun _=>fwdZ) (joinTo (upsZ p gs c) c) c c
theorem upF_len {gs:List Int} {c:Nat}:∀ i b,i < c->b.length=16->(upF gs i b).length=16:=fun _ _ _ _=>valuesTo_len _ _ _
theorem fwdF_len {c:Nat}:∀ i b,i < c->b.length=16->((fun _=>fwdZ) i b:List Int).length=16:=fun _ b _ _=>fwdZ_len b
theorem upsZ_len {p gs:List Int} {c:Nat} (hp:p.length=c*16):(upsZ p gs c).length=c*16:=blkTo_len upF_len hp c
theorem join_len {p:List Int} {c m:Nat} (hp:p.length=c*16):(joinTo p m).length=c*16:=(pairTo_len _ _ _ _).trans hp
theorem specsZ_len {p gs:List Int} {c:Nat} (hp:p.length=c*16):(specsZ p gs c).length=c*16:=blkTo_len fwdF_len (join_len (upsZ_len hp)) c
theorem upsZ_bd {M:Int} {p gs:List Int} {c m:Nat} (hp:p.length=c*16) (hg:GainsOk gs c) (h:BdL M p) (hM:0<=M):BdL (8*M) (blkTo (upF gs) p c m) :=
 blkTo_bd upF_len hp h (by omega) (fun i _ hi hb hl=>up_bd hb (hg.2 i hi) hl)
theorem specsZ_bd {M:Int} {p gs:List Int} {c:Nat} (hp:p.length=c*16) (hg:GainsOk gs c) (h:BdL M p) (hM:0<=M):BdL (72*M+84) (specsZ p gs c):=by
 have h1:=joinTo_bd (N:=12*M+4) (upsZ_len hp) (Nat.le_refl c) (upsZ_bd (m:=c) hp hg h hM) (by omega) (by omega)
 exact blkTo_bd fwdF_len (join_len (upsZ_len hp)) h1 (by omega) (fun _ b _ hb hl=>fwdZ_bd hb hl (by omega) (by omega))
theorem padZ_bd {M:Int} {l:List Int} (h:∀ x ∈ l,-M<=x/\x<=M) (hM:0<=M):BdL M (padZ l):=by
 intro j hj
 rw [padZ_len] at hj
 unfold padZ
 rw [bgt_get (range_map_get _ hj)]
 rcases Nat.lt_or_ge j l.length with h1 | h1
 ·exact h _ (List.mem_of_getElem? (get_bgt h1))
 ·rw [bgt_out h1]; omega
theorem gainsF_ok (l:List Int) (size:Int):GainsOk (gainsF l size) (countN l.length):=by
 have hf:∀ i,(gainsOf l i).length=4:=fun i=>ofTo_len _ 4
 refine ⟨rowsTo_len hf _,fun i hi=>?_⟩
 have hl:(rowAt 4 (gainsF l size) i).length=4:=rowAt_len (rowsTo_len hf _) hi
 have hget:∀ j,j < 4->(rowAt 4 (gainsF l size) i)[j]? = if i < (if 55<=size then 0 else countN l.length) then (gainsOf l i)[j]? else some 0:=fun j hj=>by
  rw [rowAt_get _ _ hj]
  exact rowsTo_get hf hi hj
 by_cases h:i < (if 55<=size then 0 else countN l.length)
 ·have:rowAt 4 (gainsF l size) i=gainsOf l i:=by
   apply List.ext_getElem?
   intro j
   rcases Nat.lt_or_ge j 4 with hj | hj
   ·rw [hget j hj,if_pos h]
   ·rw [List.getElem?_eq_none (by omega),List.getElem?_eq_none (by rw [hf]; exact hj)]
  rw [this]
  exact ofZ_gain _
 ·have:rowAt 4 (gainsF l size) i=[0,0,0,0]:=by
   apply List.ext_getElem?
   intro j
   rcases Nat.lt_or_ge j 4 with hj | hj
   ·rw [hget j hj,if_neg h]
    match j,hj with
    | 0,_ | 1,_ | 2,_ | 3,_=>rfl
   ·rw [List.getElem?_eq_none (by omega),List.getElem?_eq_none (by exact hj)]
  rw [this]
  exact ⟨rfl,rfl⟩
end
section
open Go.RowKit
end
end Go.Proofs.YtnbbfblaipjcmaaGreatDoor

/- CodeI, CodeP, CodeJ, CodeQ, CodeK. Conditions: as each theorem states. -/
import Derived.Test.YtnbbfblaipjcmaaGreatDoorPv15
import Derived.Test.YtnbbfblaipjcmaaGreatDoorPv16
import Derived.Test.YtnbbfblaipjcmaaGreatDoorPv14
import Derived.Test.YtnbbfblaipjcmaaGreatDoorPv17
import Derived.Test.YtnbbfblaipjcmaaGreatDoorPv13
namespace Go.Proofs.YtnbbfblaipjcmaaGreatDoor
section
open Go.RowKit
def aX (p:List Int) (i:Nat):List Int:=(p.drop (i*16)).take 16
theorem b6 {p:List Int} {c i:Nat} (hp:p.length=c*16) (hi:i < c):(aX p i).length=16:=by
 unfold aX
 rw [List.length_take,List.length_drop,hp]; omega
def jH (sz c:Nat) (f:Nat->List Int) (m:Nat):List Int:=((List.range c).map fun i=>if i < m then f i else List.replicate sz 0).flatten
theorem qM {sz c:Nat} {f:Nat->List Int} (hf:∀ i,(f i).length=sz) {m i j:Nat} (hi:i < c) (hj:j < sz):(jH sz c f m)[i*sz+j]? = if i < m then (f i)[j]? else some 0:=by
 unfold jH
 have hlen:∀ cs ∈ (List.range c).map (fun i=>if i < m then f i else List.replicate sz 0),cs.length=sz:=by
  intro cs hcs
  obtain ⟨k,_,rfl⟩:=List.mem_map.1 hcs
  split
  ·exact hf k
  ·simp
 have key:∀ (css:List (List Int)),(∀ cs ∈ css,cs.length=sz)->∀ i,css.flatten[i*sz+j]? = css[i]?.bind (·[j]?):=by
  intro css
  induction css with
  | nil=>intro _ i; simp
  | cons d r ih =>
   intro h i
   have hd:=h d (by simp)
   cases i with
   | zero=>rw [List.flatten_cons,Nat.zero_mul,Nat.zero_add,List.getElem?_append_left (by omega)]; rfl
   | succ i =>
    rw [List.flatten_cons,List.getElem?_append_right (by rw [hd,Nat.succ_mul]; omega),hd,show (i+1)*sz+j - sz=i*sz+j by rw [Nat.succ_mul]; omega,ih (fun x hx=>h x (by simp [hx]))]
    rfl
 rw [key _ hlen,aJ _ hi]
 simp only [Option.bind_some]
 split
 ·rfl
 ·rw [List.getElem?_replicate,if_pos hj]
theorem jZ {sz c:Nat} {f:Nat->List Int} (hf:∀ i,(f i).length=sz) (m:Nat):(jH sz c f m).length=c*sz:=by
 unfold jH
 rw [List.length_flatten,List.map_map]
 have:(List.range c).map (List.length ∘ fun i=>if i < m then f i else List.replicate sz 0)=List.replicate c sz:=by
  apply List.ext_getElem?
  intro i
  rw [List.getElem?_map,List.getElem?_replicate]
  rcases Nat.lt_or_ge i c with hi | hi
  ·rw [List.getElem?_range hi,if_pos hi]
   simp only [Option.map_some,Function.comp]
   split
   ·rw [hf]
   ·simp
  ·rw [List.getElem?_eq_none (by simpa using hi),if_neg (by omega)]; rfl
 rw [this,List.sum_replicate_nat]
theorem QQ {sz c:Nat} {f:Nat->List Int} (hf:∀ i,(f i).length=sz) (hs:0 < sz) {m:Nat} (hm:m < c):aS (jH sz c f m) (m*sz) (f m)=jH sz c f (m+1):=by
 have hfit:m*sz+(f m).length<=(jH sz c f m).length:=by
  rw [hf,jZ hf,<-Nat.succ_mul]
  exact Nat.mul_le_mul_right sz hm
 apply List.ext_getElem?
 intro t
 rw [lN hfit,hf]
 rcases Nat.lt_or_ge t (c*sz) with ht | ht
 ·obtain ⟨i,j,hj,hi,e⟩:∃ i j,j < sz/\i < c/\t=i*sz+j:=⟨t / sz,t % sz,Nat.mod_lt _ hs,(Nat.div_lt_iff_lt_mul hs).2 ht,by rw [Nat.mul_comm]; exact (Nat.div_add_mod t sz).symm⟩
  subst e
  rw [qM hf hi hj,qM hf hi hj]
  by_cases him:i=m
  ·subst him
   rw [if_pos ⟨by omega,by omega⟩,if_pos (by omega)]
   congr 1
   omega
  ·have hne:¬ (m*sz<=i*sz+j/\i*sz+j < m*sz+sz):=by
    intro ⟨h1,h2⟩
    rcases Nat.lt_or_gt_of_ne him with h | h
    ·have:=Nat.mul_le_mul_right sz (show i+1<=m from h)
     rw [Nat.succ_mul] at this
     omega
    ·have:=Nat.mul_le_mul_right sz (show m+1<=i from h)
     rw [Nat.succ_mul] at this
     omega
   rw [if_neg hne]
   by_cases h:i < m
   ·rw [if_pos h,if_pos (by omega)]
   ·rw [if_neg h,if_neg (by omega)]
 ·have h1:c*sz<=t:=ht
  have h2:=Nat.mul_le_mul_right sz (show m+1<=c from hm)
  rw [Nat.succ_mul] at h2
  rw [if_neg (by omega),List.getElem?_eq_none (by rw [jZ hf]; exact h1),List.getElem?_eq_none (by rw [jZ hf]; exact h1)]
end
section
theorem jL (l:List Int) (j:Nat):bgt l j=l[j]?.getD 0:=by unfold bgt; rw [List.getD_eq_getElem?_getD]
theorem sR {l:List Int} {j:Nat} (h:j < l.length):l[j]? = some (bgt l j):=by
 rw [jL,List.getElem?_eq_getElem h]; rfl
theorem aAi {l:List Int} {off:Nat} {xs:List Int} (h:off+xs.length<=l.length) (j:Nat):bgt (aS l off xs) j=if off<=j/\j < off+xs.length then bgt xs (j - off) else bgt l j:=by
 rw [jL,lN h]
 split
 ·rw [jL]
 ·rw [jL]
theorem I6 (l:List Int) {n k:Nat} (hk:k < n):bgt (nV l n) k=bgt l (n - 1 - k):=aD (aJ _ hk)
theorem KY (l:List Int) (off n:Nat) {k:Nat} (hk:k < n):bgt ((l.drop off).take n) k=bgt l (off+k):=by
 rw [jL,List.getElem?_take,if_pos hk,List.getElem?_drop,jL]
def iN (fa fb:Int->Int->TurnV->Int) (p:List Int) (m:Nat):List Int:=(List.range p.length).map fun j =>
 if 1<=(j+8) / 16/\(j+8) / 16 < m then (if j < (j+8) / 16*16 then fa (bgt p j) (bgt p ((j+8) / 16*32 - 1 - j)) (bE ((j+8) / 16*16 - 1 - j)) else fb (bgt p ((j+8) / 16*32 - 1 - j)) (bgt p j) (bE (j - (j+8) / 16*16))) else bgt p j
def eI (p:List Int) (m:Nat):List Int:=iN dG dU p m
def EY (p:List Int) (m:Nat):List Int:=iN unA unB p m
theorem dX (fa fb:Int->Int->TurnV->Int) (p:List Int) (m:Nat):(iN fa fb p m).length=p.length:=by simp [iN]
theorem eJ (fa fb:Int->Int->TurnV->Int) (p:List Int) (m:Nat) {j:Nat} (hj:j < p.length):bgt (iN fa fb p m) j =
  if 1<=(j+8) / 16/\(j+8) / 16 < m then (if j < (j+8) / 16*16 then fa (bgt p j) (bgt p ((j+8) / 16*32 - 1 - j)) (bE ((j+8) / 16*16 - 1 - j)) else fb (bgt p ((j+8) / 16*32 - 1 - j)) (bgt p j) (bE (j - (j+8) / 16*16))) else bgt p j:=aD (aJ _ hj)
theorem VH (fa fb:Int->Int->TurnV->Int) (p:List Int) {m:Nat} (hm:m<=1):iN fa fb p m=p:=by
 refine gG (dX _ _ _ _) rfl (fun j hj=>?_)
 rw [eJ _ _ _ _ hj,if_neg (by omega)]
def gA (fa:Int->Int->TurnV->Int) (xs zs:List Int) (o k:Nat):List Int:=(List.range 8).map fun j=>if j < k then fa (bgt xs j) (bgt zs (o+j)) (bE j) else bgt xs j
def gB (fb:Int->Int->TurnV->Int) (xs zs:List Int) (o k:Nat):List Int:=(List.range zs.length).map fun j=>if o<=j/\j < o+k then fb (bgt xs (j - o)) (bgt zs j) (bE (j - o)) else bgt zs j
theorem aDy (fa:Int->Int->TurnV->Int) (xs zs:List Int) (o k:Nat):(gA fa xs zs o k).length=8:=by simp [gA]
theorem UO (fb:Int->Int->TurnV->Int) (xs zs:List Int) (o k:Nat):(gB fb xs zs o k).length=zs.length:=by simp [gB]
theorem aDx (fa:Int->Int->TurnV->Int) (xs zs:List Int) (o:Nat) {j:Nat} (hj:j < 8):bgt (gA fa xs zs o 8) j=fa (bgt xs j) (bgt zs (o+j)) (bE j):=by
 unfold gA
 rw [aD (aJ _ hj),if_pos hj]
theorem aDz (fb:Int->Int->TurnV->Int) (xs zs:List Int) (o:Nat) {j:Nat} (hj:j < zs.length):bgt (gB fb xs zs o 8) j=if o<=j/\j < o+8 then fb (bgt xs (j - o)) (bgt zs j) (bE (j - o)) else bgt zs j:=aD (aJ _ hj)
def lZ (p:List Int) (o:Nat):List Int:=nV ((p.drop (o - 8)).take 8) 8
theorem aBh (p:List Int) (o:Nat):(lZ p o).length=8:=oT _ _
theorem DE (p:List Int) {o k:Nat} (ho:8<=o) (hk:k < 8):bgt (lZ p o) k=bgt p (o - 1 - k):=by
 unfold lZ
 rw [I6 _ hk,KY _ _ _ (by omega),show o - 8+(8 - 1 - k)=o - 1 - k by omega]
def JK (fa fb:Int->Int->TurnV->Int) (p:List Int) (o:Nat):List Int:=aS (gB fb (lZ p o) p o 8) (o - 8) (nV (gA fa (lZ p o) p o 8) 8)
theorem ZN (fa fb:Int->Int->TurnV->Int) {p:List Int} {c i:Nat} (hp:p.length=c*16) (h1:1<=i) (hi:i < c):JK fa fb (iN fa fb p i) (i*16)=iN fa fb p (i+1):=by
 have hq:=dX fa fb p i
 have hfit:i*16 - 8+(nV (gA fa (lZ (iN fa fb p i) (i*16)) (iN fa fb p i) (i*16) 8) 8).length<=(gB fb (lZ (iN fa fb p i) (i*16)) (iN fa fb p i) (i*16) 8).length:=by
  rw [oT,UO,hq,hp]; omega
 have uR:∀ j,j < p.length->i<=(j+8) / 16->bgt (iN fa fb p i) j=bgt p j:=fun j hj h=>by rw [eJ _ _ _ _ hj,if_neg (by omega)]
 refine gG (n:=p.length) ?_ (dX _ _ _ _) (fun j hj=>?_)
 ·unfold JK
  rw [cT hfit,UO,hq]
 ·unfold JK
  rw [aAi hfit,oT,eJ _ _ _ _ hj]
  by_cases ha:i*16 - 8<=j/\j < i*16 - 8+8
  ·have ho:(j+8) / 16=i:=by omega
   rw [if_pos ha,ho,if_pos (by omega),if_pos (by omega),I6 _ (by omega),aDx _ _ _ _ (by omega),DE _ (by omega) (by omega),show i*16 - 1 - (8 - 1 - (j - (i*16 - 8)))=j by omega,
    show i*16+(8 - 1 - (j - (i*16 - 8)))=i*32 - 1 - j by omega,show 8 - 1 - (j - (i*16 - 8))=i*16 - 1 - j by omega,uR j hj (by omega),uR (i*32 - 1 - j) (by omega) (by omega)]
  ·rw [if_neg ha,aDz _ _ _ _ (by rw [hq]; exact hj)]
   by_cases hb:i*16<=j/\j < i*16+8
   ·have ho:(j+8) / 16=i:=by omega
    rw [if_pos hb,ho,if_pos (by omega),if_neg (by omega),DE _ (by omega) (by omega),show i*16 - 1 - (j - i*16)=i*32 - 1 - j by omega,uR j hj (by omega),uR (i*32 - 1 - j) (by omega) (by omega)]
   ·rw [if_neg hb,eJ _ _ _ _ hj]
    have hne:(j+8) / 16 ≠ i:=by omega
    by_cases hc:1<=(j+8) / 16/\(j+8) / 16 < i
    ·rw [if_pos hc,if_pos (show 1<=(j+8) / 16/\(j+8) / 16 < i+1 by omega)]
    ·rw [if_neg hc,if_neg (show ¬ (1<=(j+8) / 16/\(j+8) / 16 < i+1) by omega)]
theorem aAd {p:List Int} {c:Nat} (hp:p.length=c*16):EY (eI p c) c=p:=by
 unfold EY eI
 refine gG (n:=p.length) (by rw [dX,dX]) rfl (fun j hj=>?_)
 rw [eJ _ _ _ _ (by rw [dX]; exact hj)]
 by_cases h:1<=(j+8) / 16/\(j+8) / 16 < c
 ·rw [if_pos h]
  obtain ⟨o,ho⟩:∃ o,(j+8) / 16=o:=⟨_,rfl⟩
  rw [ho] at h ⊢
  have hk:o*32 - 1 - j < p.length:=by omega
  have ho2:(o*32 - 1 - j+8) / 16=o:=by omega
  rw [eJ _ _ _ _ hj,eJ _ _ _ _ hk,ho,ho2,if_pos h,if_pos h]
  by_cases hl:j < o*16
  ·rw [if_pos hl,if_pos hl,if_neg (by omega),show o*32 - 1 - (o*32 - 1 - j)=j by omega,show o*32 - 1 - j - o*16=o*16 - 1 - j by omega]
   exact (sI _ _ _).1
  ·rw [if_neg hl,if_neg hl,if_pos (by omega),show o*32 - 1 - (o*32 - 1 - j)=j by omega,show o*16 - 1 - (o*32 - 1 - j)=j - o*16 by omega]
   exact (sI _ _ _).2
 ·rw [if_neg h,eJ _ _ _ _ hj,if_neg h]
def BdL (M:Int) (p:List Int):Prop:=∀ j,j < p.length->-M<=bgt p j/\bgt p j<=M
theorem BdL.mono {M N:Int} {p:List Int} (h:BdL M p) (hn:M<=N):BdL N p:=fun j hj=>by have:=h j hj; omega
theorem BdL.turnB {M:Int} {p:List Int} (h:BdL M p) (hM:M<=1099511627776):TurnB p:=fun k x hx=>by
 have:=h k (List.getElem?_eq_some_iff.1 hx).1
 rw [aD hx] at this
 omega
theorem BdL.mem {M:Int} {p:List Int} (h:BdL M p):∀ x ∈ p,-M<=x/\x<=M:=fun x hx=>by
 obtain ⟨j,hj⟩:=List.mem_iff_getElem?.1 hx
 have:=h j (List.getElem?_eq_some_iff.1 hj).1
 rw [aD hj] at this
 exact this
theorem BdL.within {M:Int} {b:List Int} (h:BdL M b) (hb:b.length=16):Within M b:=fun k hk=>h k (by omega)
theorem FS {M:Int} {b:List Int} (h:Within M b) (hb:b.length=16):BdL M b:=fun j hj=>h j (by omega)
theorem aAb {fa fb : Int → Int → TurnV → Int} (hf : ∀ (k : Nat), k < 8 → ∀ (a b M : Int), -M ≤ a → a ≤ M → -M ≤ b → b ≤ M →
      (-(3 * M + 8) ≤ 2 * fa a b (bE k) ∧ 2 * fa a b (bE k) ≤ 3 * M + 8) ∧ (-(3 * M + 8) ≤ 2 * fb a b (bE k) ∧ 2 * fb a b (bE k) ≤ 3 * M + 8))
    {M N : Int} {p : List Int} {c m : Nat} (hp : p.length = c * 16) (hm : m ≤ c) (h : BdL M p) (hN : 3 * M + 8 ≤ 2 * N) (hMN : M ≤ N) : BdL N (iN fa fb p m) := by
  intro j hj
  rw [dX] at hj
  rw [eJ _ _ _ _ hj]
  have h0 := h j hj
  split
  · rename_i h1
    have h2 := h ((j + 8) / 16 * 32 - 1 - j) (by omega)
    split
    · have := (hf ((j + 8) / 16 * 16 - 1 - j) (by omega) _ _ M h0.1 h0.2 h2.1 h2.2).1
      omega
    · have := (hf (j - (j + 8) / 16 * 16) (by omega) _ _ M h2.1 h2.2 h0.1 h0.2).2
      omega
  · omega
theorem yA {M N:Int} {p:List Int} {c m:Nat} (hp:p.length=c*16) (hm:m<=c) (h:BdL M p) (hN:3*M+8<=2*N) (hMN:M<=N):BdL N (eI p m):=aAb BV hp hm h hN hMN
/-! Rows of blocks. -/
def kX (c:Nat) (R:Nat->List Int):List Int:=((List.range c).map R).flatten
theorem oS {sz c:Nat} {R:Nat->List Int} (hR:∀ i,i < c->(R i).length=sz) {i j:Nat} (hi:i < c) (hj:j < sz):(kX c R)[i*sz+j]? = (R i)[j]?:=by
 unfold kX
 have hlen:∀ cs ∈ (List.range c).map R,cs.length=sz:=by
  intro cs hcs
  obtain ⟨k,hk,rfl⟩:=List.mem_map.1 hcs
  exact hR k (List.mem_range.1 hk)
 have key:∀ (css:List (List Int)),(∀ cs ∈ css,cs.length=sz)->∀ i,css.flatten[i*sz+j]? = css[i]?.bind (·[j]?):=by
  intro css
  induction css with
  | nil=>intro _ i; simp
  | cons d r ih =>
   intro h i
   have hd:=h d (by simp)
   cases i with
   | zero=>rw [List.flatten_cons,Nat.zero_mul,Nat.zero_add,List.getElem?_append_left (by omega)]; rfl
   | succ i =>
    rw [List.flatten_cons,List.getElem?_append_right (by rw [hd,Nat.succ_mul]; omega),hd,show (i+1)*sz+j - sz=i*sz+j by rw [Nat.succ_mul]; omega,ih (fun x hx=>h x (by simp [hx]))]
    rfl
 rw [key _ hlen,aJ _ hi]
 rfl
theorem j2 {sz c:Nat} {R:Nat->List Int} (hR:∀ i,i < c->(R i).length=sz):(kX c R).length=c*sz:=by
 unfold kX
 rw [List.length_flatten,List.map_map]
 have:(List.range c).map (List.length ∘ R)=List.replicate c sz:=by
  apply List.ext_getElem?
  intro i
  rw [List.getElem?_map,List.getElem?_replicate]
  rcases Nat.lt_or_ge i c with hi | hi
  ·rw [List.getElem?_range hi,if_pos hi]
   simp only [Option.map_some,Function.comp,hR i hi]
  ·rw [List.getElem?_eq_none (by simpa using hi),if_neg (by omega)]; rfl
 rw [this,List.sum_replicate_nat]
theorem XH {sz c:Nat} {a b:List Int} (hs:0 < sz) (ha:a.length=c*sz) (hb:b.length=c*sz) (h:∀ i j,i < c->j < sz->a[i*sz+j]? = b[i*sz+j]?):a=b:=by
 apply List.ext_getElem?
 intro t
 rcases Nat.lt_or_ge t (c*sz) with ht | ht
 ·obtain ⟨i,j,hj,hi,e⟩:∃ i j,j < sz/\i < c/\t=i*sz+j:=⟨t / sz,t % sz,Nat.mod_lt _ hs,(Nat.div_lt_iff_lt_mul hs).2 ht,by rw [Nat.mul_comm]; exact (Nat.div_add_mod t sz).symm⟩
  subst e
  exact h i j hi hj
 ·rw [List.getElem?_eq_none (by omega),List.getElem?_eq_none (by omega)]
def eV (sz:Nat) (p:List Int) (i:Nat):List Int:=(p.drop (i*sz)).take sz
theorem s8 {sz:Nat} (p:List Int) (i:Nat) {j:Nat} (hj:j < sz):(eV sz p i)[j]? = p[i*sz+j]?:=by
 unfold eV
 rw [List.getElem?_take,if_pos hj,List.getElem?_drop]
theorem s9 {sz c i:Nat} (hi:i < c):i*sz+sz<=c*sz:=by
 have:=Nat.mul_le_mul_right sz (show i+1<=c from hi)
 rwa [Nat.succ_mul] at this
theorem pG {sz:Nat} {p:List Int} {c i:Nat} (hp:p.length=c*sz) (hi:i < c):(eV sz p i).length=sz:=by
 have:=s9 (sz:=sz) hi
 unfold eV
 rw [List.length_take,List.length_drop,hp]; omega
theorem AH {sz c:Nat} {R:Nat->List Int} (hR:∀ i,i < c->(R i).length=sz) {i:Nat} (hi:i < c):eV sz (kX c R) i=R i:=by
 apply List.ext_getElem?
 intro j
 rcases Nat.lt_or_ge j sz with hj | hj
 ·rw [s8 _ _ hj,oS hR hi hj]
 ·rw [List.getElem?_eq_none (by rw [pG (j2 hR) hi]; exact hj),List.getElem?_eq_none (by rw [hR i hi]; exact hj)]
theorem p7 {sz c:Nat} {p:List Int} (hs:0 < sz) (hp:p.length=c*sz):kX c (eV sz p)=p :=
 XH hs (j2 fun i hi=>pG hp hi) hp fun i j hi hj=>by rw [oS (fun i hi=>pG hp hi) hi hj,s8 _ _ hj]
theorem l0 {c:Nat} {R S:Nat->List Int} (h:∀ i,i < c->R i=S i):kX c R=kX c S:=by
 unfold kX
 congr 1
 apply List.map_congr_left
 intro i hi
 exact h i (List.mem_range.1 hi)
theorem ZC {sz c:Nat} {R:Nat->List Int} (hs:0 < sz) (hR:∀ i,i < c->(R i).length=sz) {m:Nat} (hm:m < c) {x:List Int} (hx:x.length=sz):aS (kX c R) (m*sz) x=kX c (fun i=>if i=m then x else R i):=by
 have hR2:∀ i,i < c->((fun i=>if i=m then x else R i) i).length=sz:=fun i hi=>by
  show (if i=m then x else R i).length=sz
  split
  ·exact hx
  ·exact hR i hi
 have hfit:m*sz+x.length<=(kX c R).length:=by rw [hx,j2 hR]; exact s9 hm
 refine XH hs (by rw [cT hfit,j2 hR]) (j2 hR2) (fun i j hi hj=>?_)
 rw [lN hfit,hx,oS hR2 hi hj,oS hR hi hj]
 show _=(if i=m then x else R i)[j]?
 by_cases him:i=m
 ·subst him
  rw [if_pos ⟨by omega,by omega⟩,if_pos rfl]
  congr 1
  omega
 ·have hne:¬ (m*sz<=i*sz+j/\i*sz+j < m*sz+sz):=by
   intro ⟨h1,h2⟩
   rcases Nat.lt_or_gt_of_ne him with h | h
   ·have:=Nat.mul_le_mul_right sz (show i+1<=m from h)
    rw [Nat.succ_mul] at this
    omega
   ·have:=Nat.mul_le_mul_right sz (show m+1<=i from h)
    rw [Nat.succ_mul] at this
    omega
  rw [if_neg hne,if_neg him]
def eM (f:Nat->List Int->List Int) (p:List Int) (c m:Nat):List Int:=kX c fun i=>if i < m then f i (aX p i) else aX p i
section
variable {f : Nat → List Int → List Int} {p : List Int} {c : Nat}
theorem pW (hf:∀ i b,i < c->b.length=16->(f i b).length=16) (hp:p.length=c*16) (m:Nat):∀ i,i < c->(if i < m then f i (aX p i) else aX p i).length=16:=fun i hi=>by
 split
 ·exact hf i _ hi (b6 hp hi)
 ·exact b6 hp hi
theorem lB (hf:∀ i b,i < c->b.length=16->(f i b).length=16) (hp:p.length=c*16) (m:Nat):(eM f p c m).length=c*16:=j2 (pW hf hp m)
theorem CV (hp:p.length=c*16):eM f p c 0=p:=by
 refine Eq.trans ?_ (p7 (by decide) hp)
 exact l0 fun i _=>if_neg (by omega)
theorem vU (hf:∀ i b,i < c->b.length=16->(f i b).length=16) (hp:p.length=c*16) (m:Nat) {i:Nat} (hi:i < c):aX (eM f p c m) i=if i < m then f i (aX p i) else aX p i:=AH (sz:=16) (pW hf hp m) hi
theorem TE (hf:∀ i b,i < c->b.length=16->(f i b).length=16) (hp:p.length=c*16) {m:Nat} (hm:m < c):aS (eM f p c m) (m*16) (f m (aX p m))=eM f p c (m+1):=by
 unfold eM
 rw [ZC (by decide) (pW hf hp m) hm (hf m _ hm (b6 hp hm))]
 apply l0
 intro i hi
 by_cases h:i=m
 ·subst h; rw [if_pos rfl,if_pos (by omega)]
 ·rw [if_neg h]
  by_cases h2:i < m
  ·rw [if_pos h2,if_pos (by omega)]
  ·rw [if_neg h2,if_neg (by omega)]
end
theorem mT {M:Int} {p:List Int} {c i:Nat} (hp:p.length=c*16) (hi:i < c) (h:BdL M p):BdL M (aX p i):=fun j hj=>by
 have hb:=b6 hp hi
 rw [show aX p i=(p.drop (i*16)).take 16 from rfl,KY _ _ _ (by omega)]
 exact h _ (by omega)
theorem aBo {M:Int} {c:Nat} {R:Nat->List Int} (hR:∀ i,i < c->(R i).length=16) (h:∀ i,i < c->BdL M (R i)):BdL M (kX c R):=fun t ht=>by
 rw [j2 hR] at ht
 obtain ⟨i,j,hj,hi,e⟩:∃ i j,j < 16/\i < c/\t=i*16+j:=⟨t / 16,t % 16,by omega,by omega,by omega⟩
 subst e
 have e2:bgt (kX c R) (i*16+j)=bgt (R i) j:=by rw [jL,oS hR hi hj,jL]
 rw [e2]
 exact h i hi j (by rw [hR i hi]; exact hj)
theorem NG {M N:Int} {f:Nat->List Int->List Int} {p:List Int} {c m:Nat} (hf:∀ i b,i < c->b.length=16->(f i b).length=16) (hp:p.length=c*16) (h:BdL M p) (hMN:M<=N)
  (hb:∀ i b,i < c->b.length=16->BdL M b->BdL N (f i b)):BdL N (eM f p c m):=by
 refine aBo (pW hf hp m) (fun i hi=>?_)
 split
 ·exact hb i _ hi (b6 hp hi) (mT hp hi h)
 ·exact (mT hp hi h).mono hMN
theorem DQ (b:List Int):(nO b).length=16:=l9 _ _
theorem PD (b:List Int):(kJ b).length=16:=rM _ _
theorem aCQ {M N:Int} {b:List Int} (hb:b.length=16) (h:BdL M b) (hM:0<=M) (hN:6*M+60<=N):BdL N (nO b):=by
 have h1:=o7 (N:=(3*M+9) / 2) (h.within hb) (by omega) (r:=0) (by omega)
 have h2:=o7 (N:=(9*M+56) / 4) h1 (by omega) (r:=1) (by omega)
 have h3:=o7 (N:=(27*M+238) / 8) h2 (by omega) (r:=2) (by omega)
 have h4:=o7 (N:=N) h3 (by omega) (r:=3) (by omega)
 exact FS h4 (DQ b)
theorem aC1 {M N:Int} {b:List Int} (hb:b.length=16) (h:BdL M b) (hM:0<=M) (hN:6*M+60<=N):BdL N (kJ b):=by
 have h1:=oN (N:=(3*M+9) / 2) (h.within hb) (by omega) (r:=3) (by omega)
 have h2:=oN (N:=(9*M+56) / 4) h1 (by omega) (r:=2) (by omega)
 have h3:=oN (N:=(27*M+238) / 8) h2 (by omega) (r:=1) (by omega)
 have h4:=oN (N:=N) h3 (by omega) (r:=0) (by omega)
 exact FS h4 (PD b)
end
section
open Go.Lib (hid)
open Go.RowKit
theorem QR (sz c:Nat) (f:Nat->List Int):(jH sz c f 0).map (Value.int .i64)=List.replicate (c*sz) (.int .i64 0):=by
 have:jH sz c f 0=List.replicate (c*sz) 0:=by
  unfold jH
  have:(List.range c).map (fun i=>if i < 0 then f i else List.replicate sz (0:Int))=List.replicate c (List.replicate sz 0):=by
   apply List.ext_getElem?
   intro i
   rw [List.getElem?_map,List.getElem?_replicate]
   rcases Nat.lt_or_ge i c with hi | hi
   ·rw [List.getElem?_range hi,if_pos hi]; simp
   ·rw [List.getElem?_eq_none (by simpa using hi),if_neg (by omega)]; rfl
  rw [this,List.flatten_replicate_replicate]
 rw [this,List.map_replicate]
def jM (l:List Int):Nat->List Int:=fun i=>ofZ (aX (fE l) i)
def fW (l:List Int) (size:Int):List Int:=jH 4 (aV l.length) (jM l) (if 55<=size then 0 else aV l.length)
theorem kP (l:List Int):(fE l).length=aV l.length*16:=by simp [fE]
theorem aAa {l:List Int} (h:TurnB l) (i:Nat):TurnB (aX (fE l) i):=by
 intro k x hx
 have hx2:x ∈ fE l:=iP x (List.mem_of_getElem? hx)
 unfold fE at hx2
 obtain ⟨j,_,rfl⟩:=List.mem_map.1 hx2
 rcases Nat.lt_or_ge j l.length with hj | hj
 ·have:=h j _ (List.getElem?_eq_getElem hj)
  rw [aD (List.getElem?_eq_getElem hj)]
  exact this
 ·rw [KK hj]; omega
theorem aDP:(Tryz.prog.info? 45).map (fun i=>(i.zero,i.size,i.bytes))=some (some (.agg (List.replicate 4 (Value.int .i64 0)).toArray),4,32):=by kernel_rfl
def MZ (W:World) (c:Nat) (xs:List Int) (e:Ending) (w':World):Prop :=
 ∃ g,e=.returned (.slice (some ⟨g,0,none⟩) c c)/\W.heap.size<=g/\Blk w' g 45 (xs.map (.int .i64))/\Below W.heap.size W w'
set_option maxRecDepth 100000 in
set_option maxHeartbeats 4000000 in
theorem XU (gc:Nat) (size:Int) (l:List Int) (A:Option Addr) (cap:Nat) (w:World) (hg:CoderAt w gc size) (hl:l.length<=1000000) (hr:Row w w.heap.size A (l.map (.int .i64))) (ht:TurnB l) :
  Calls Tryz.prog 202 #[.pointer (some ⟨gc,0,none⟩),.slice A l.length cap] w (MZ w (aV l.length) (fW l size)):=by
 unfold MZ fW
 have Hr:=hid hr
 have HCn:=hid (fun W=>xI l.length W (by omega))
 have HBl:=hid (fun W (hW:Below w.heap.size w W)=>BW l A cap W (by omega) (hr.later hW))
 have HOf:=hid (fun i W (hi:i < aV l.length)=>aDu (aX (fE l) i) W (b6 (kP l) hi) (aAa ht i))
 have HOl:=hid (fun i=>(show (jM l i).length=4 from mA _ 4))
 have HBk:=hid (fun i (hi:i < aV l.length)=>b6 (kP l) hi)
 have hcc:aV l.length<=1000000:=by unfold aV; omega
 have Hpl:=hid (kP l)
 obtain ⟨n,hn⟩:∃ n,l.length=n:=⟨_,rfl⟩
 rw [hn] at hl hcc HCn HBl HOf HBk Hpl ⊢
 generalize aV n=c at *
 obtain ⟨i0,hi,hz0,hz1,hz2⟩:∃ i,Tryz.prog.info? 45=some i/\i.zero=some (.agg (List.replicate 4 (Value.int .i64 0)).toArray)/\i.size=4/\i.bytes=32:=by
  have:=aDP
  cases h:Tryz.prog.info? 45 with
  | none=>rw [h] at this; cases this
  | some i =>
   rw [h] at this
   simp only [Option.map_some,Option.some.injEq,Prod.mk.injEq] at this
   exact ⟨i,rfl,this.1,this.2.1,this.2.2⟩
 have Hms:=hid (show (madeCells (Value.agg (List.replicate 4 (Value.int .i64 0)).toArray).cells (c*4)).toList=List.replicate (c*4) (.int .i64 0) from mH _ _ (by decide) (fun j hj=>by
  have hj16:j < 4:=hj
  have hk:j=0\/j=1\/j=2\/j=3:=by omega
  rcases hk with rfl | rfl | rfl | rfl <;> rfl) _)
 obtain ⟨mc,hmc⟩:∃ mc,madeCells (Value.agg (List.replicate 4 (Value.int .i64 0)).toArray).cells (c*4)=mc:=⟨_,rfl⟩
 rw [hmc] at Hms
 have hmc2:mc=((jH 4 c (jM l) 0).map (Value.int .i64)).toArray:=by
  apply Array.toList_inj.1
  rw [Hms.out,QR]
 have HB0:=hid (show Blk (w.alloc (.cells mc 45)) w.heap.size 45 ((jH 4 c (jM l) 0).map (.int .i64)) by rw [hmc2]; exact Blk.new w _ _)
 have HX:=hid (SD gc size (w.alloc (.cells mc 45)) (aF hg (aL w _)))
 clear hr hn hmc2 Hms hg ht
 by_cases h55:55<=size
 ·rw [if_pos h55]
  have e1:decide (55<=size)=true:=decide_eq_true h55
  rw [e1] at HX
  go_enter Tryz.func202,Tryz.ntmps202
  go_wp2_with (first | (go_at_call 90; refine (HCn.out _).mono ?_; rintro e w1 ⟨rfl,rfl⟩) | (refine fY w rfl (.tmp 10) (.tmp 10) 263 rfl 45 i0 (.agg (List.replicate 4 (Value.int .i64 0)).toArray) 4 Tryz.underlying263 hi hz0 hz1 .i64 .i64 c rfl rfl (by rw [hz2]; omega) (by omega) ?_; rw [hmc]) | (go_at_call 231; refine HX.out.mono ?_; rintro e w1 ⟨rfl,rfl⟩))
  go_ret
  exact ⟨w.heap.size,rfl,Nat.le_refl _,HB0.out,aL w _⟩
 ·rw [if_neg h55]
  have e1:decide (55<=size)=false:=decide_eq_false h55
  rw [e1] at HX
  go_enter Tryz.func202,Tryz.ntmps202
  go_wp2_with (first | (go_at_call 90; refine (HCn.out _).mono ?_; rintro e w1 ⟨rfl,rfl⟩) | (refine fY w rfl (.tmp 10) (.tmp 10) 263 rfl 45 i0 (.agg (List.replicate 4 (Value.int .i64 0)).toArray) 4 Tryz.underlying263 hi hz0 hz1 .i64 .i64 c rfl rfl (by rw [hz2]; omega) (by omega) ?_; rw [hmc]) | (go_at_call 231; refine HX.out.mono ?_; rintro e w1 ⟨rfl,rfl⟩) | (go_at_call 232; fail))
  refine (HBl.out _ (aL w _)).mono ?_
  rintro e w2 ⟨gb,rfl,hgb,hbb,hb2⟩
  have HG2:=hid (HB0.out.below hb2 HB0.out.lt)
  have HP2:=hid hbb
  have HB2:=hid (aC (aL w _) hb2)
  have hne:gb ≠ w.heap.size:=by simp at hgb; omega
  have hgbw:w.heap.size < gb:=by simp at hgb; omega
  clear hb2 hbb hgb HB0 HX
  go_wp2
  go_loopw [18] (fun i wr=>∃ m:Nat,m<=c/\i=.int .i64 m/\Blk wr w.heap.size 45 ((jH 4 c (jM l) m).map (.int .i64))/\Blk wr gb 48 ((fE l).map (.int .i64))/\Below w.heap.size w wr) (fun i _=>c - (intOf i).toNat)
  case atStart=>exact ⟨0,by omega,rfl,HG2.out,HP2.out,HB2.out⟩
  case round =>
   obtain ⟨m,hm,rfl,hG,hP,hbel⟩:=hrel
   have HG:=hid hG
   have HP:=hid hP
   have Hbel:=hid hbel
   clear HG2 HP2 HB2 hG hP hbel
   by_cases hlk:m < c
   ·have t1:(m:Int) < (c:Int):=by omega
    have HO:=hid (fun W=>HOf.out m W hlk)
    have HS:=hid (QQ HOl.out (by omega) hlk)
    have hbl:=HBk.out m hlk
    have hgl:=HOl.out m
    have hrl:=jZ HOl.out (sz:=4) (c:=c) m
    have HX:=hid (fun (j:Nat) (v:Value) (hv:((aX (fE l) m).map (Value.int .i64))[j]? = some v)=>(show wr.cell? ⟨gb,m*16+j,none⟩=some v by
     rw [HP.out.cell,List.getElem?_map]
     rw [List.getElem?_map] at hv
     unfold aX at hv
     rw [List.getElem?_take] at hv
     split at hv
     ·rw [List.getElem?_drop] at hv; exact hv
     ·cases hv))
    have HGo:=hid (show jM l m=ofZ (aX (fE l) m) from rfl)
    rw [HGo.out] at HS hgl
    obtain ⟨R1,hR1⟩:∃ R1,jH 4 c (jM l) (m+1)=R1:=⟨_,rfl⟩
    have HR1:=hid hR1
    rw [hR1] at HS
    clear hR1
    generalize jH 4 c (jM l) m=R0 at *
    unfold aT at HO
    have Hy1:=hid (fun u (hu:u ∈ (ofZ (aX (fE l) m)).map (Value.int .i64))=>(show u.oneCell'=true by
     obtain ⟨y,_,rfl⟩:=List.mem_map.1 hu
     rfl))
    have HSm:=hid (show (aS R0 (m*4) (ofZ (aX (fE l) m))).map (Value.int .i64)=R1.map (.int .i64) by rw [HS.out])
    rw [sY] at HSm
    have hxl:((aX (fE l) m).map (Value.int .i64)).length=16:=by rw [List.length_map,hbl]
    have hyl:((ofZ (aX (fE l) m)).map (Value.int .i64)).length=4:=by rw [List.length_map,hgl]
    have hx1:=e9 (aX (fE l) m)
    generalize (aX (fE l) m).map (Value.int .i64)=xs at *
    generalize (ofZ (aX (fE l) m)).map (Value.int .i64)=ys at *
    have HFx:=hid (show (Tryz.prog.info? 48).map (·.size)=some xs.length by rw [hxl]; exact bS)
    have HFa:=hid (show (Tryz.prog.info? 48).map (·.size)=some xs.toArray.size by rw [List.size_toArray,hxl]; exact bS)
    have HFy:=hid (show (Tryz.prog.info? 45).map (·.size)=some ys.length by rw [hyl]; exact bY)
    have Hxl:=hid hxl
    have Hx1:=hid hx1
    have Hrl:=hid (show m*4+ys.length<=(R0.map (Value.int .i64)).length by rw [hyl,List.length_map,hrl]; omega)
    clear hxl hyl hx1 hbl hgl hrl HS HGo
    have HN:=hid (heap_alloc_new wr (.cells xs.toArray 48))
    go_wp2_with (first | (go_at_call 233; fail) | (refine aN rfl 48 (.tmp 21) rfl gb (m*16) rfl xs _ HX.out Tryz.underlying48 rfl HFx.out ?_) | (refine aA rfl 48 (.tmp 7) (.tmp 22) rfl wr.heap.size rfl _ _ xs.toArray rfl (heap_alloc_new wr _) HFa.out (by show (16:Nat)=_; rw [List.size_toArray,Hxl.out]) Hx1.out ?_; rw [World.setRow_alloc_new]) | (refine aB rfl 48 (.tmp 7) rfl wr.heap.size rfl _ xs.toArray _ _ HN.out Tryz.underlying48 rfl HFa.out ?_))
    refine (HO.out _).mono ?_
    rintro e w3 ⟨rfl,hb3⟩
    have hb4:=aC (aL wr (.cells xs.toArray 48)) hb3
    have G3:=hid (HG.out.below hb4 HG.out.lt)
    have P3:=hid (HP.out.below hb4 HP.out.lt)
    have L3:=hid (aC Hbel.out hb4)
    clear hb3 hb4
    go_wp2_with (refine dQ rfl 45 (.tmp 27) (.tmp 26) rfl w.heap.size (m*4) rfl _ _ ys rfl G3.out HFy.out Hrl.out Hy1.out ?_; rw [HSm.out])
    go_roundw
    case rel=>exact ⟨m+1,by omega,by go_num,by rw [HR1.out]; exact bB w3 _ _ _ _ G3.out,(setRow_other _ _ _ _ (by omega)).trans P3.out,aO L3.out _ (by omega) _⟩
    case measure=>simp [intOf]; omega
   ·have hmc:m=c:=by omega
    have t1:¬ ((m:Int) < (c:Int)):=by omega
    subst hmc
    go_wp2
    go_ret
    exact ⟨w.heap.size,rfl,Nat.le_refl _,HG.out,Hbel.out⟩
end
section
theorem aB9 (x:Int) (k:Nat):lP (x*2 ^ k) k=x:=by
 unfold lP
 split
 ·rename_i h; subst h; simp
 ·rename_i h
  obtain ⟨n,rfl⟩:∃ n,k=n+1:=⟨k - 1,by omega⟩
  have hp:(2:Int) ^ n ≠ 0:=Int.ne_of_gt (Int.pow_pos (by decide))
  have hp2:(2:Int) ^ (n+1) ≠ 0:=Int.ne_of_gt (Int.pow_pos (by decide))
  have e:x*2 ^ (n+1)=(2*x)*2 ^ n:=by rw [Int.pow_succ,Int.mul_comm (2 ^ n) 2,<-Int.mul_assoc,Int.mul_comm x 2]
  rw [Int.mul_ediv_cancel _ hp2,Nat.add_sub_cancel,e,Int.mul_ediv_cancel _ hp]
  omega
def upF (gs:List Int) (i:Nat) (b:List Int):List Int:=bH b (eV 4 gs i) 16
def aBg (gs:List Int) (i:Nat) (b:List Int):List Int:=xQ b (eV 4 gs i) 16
theorem aCC {b:List Int} (g:List Int) (hb:b.length=16):xQ (bH b g 16) g 16=b:=by
 refine gG (DA _ _ _) hb (fun j hj=>?_)
 unfold xQ
 rw [aD (aJ _ hj),if_pos hj,qT _ _ hj,if_pos hj]
 exact aB9 _ _
def AZ (gs:List Int) (c:Nat):Prop:=gs.length=c*4/\∀ i,i < c->GainB (eV 4 gs i)
theorem aDW {M:Int} {b g:List Int} (hb:b.length=16) (hg:GainB g) (h:BdL M b):BdL (8*M) (bH b g 16):=by
 intro j hj
 rw [kU] at hj
 rw [qT _ _ hj,if_pos hj]
 have h1:=h j (by omega)
 obtain ⟨x,hx⟩:=aE (k:=j / 4) hg.1 (by omega)
 have h2:=hg.get hx
 rw [aD hx]
 obtain ⟨k,hk⟩:∃ k,x.toNat=k:=⟨_,rfl⟩
 rw [hk]
 have hk4:k=0\/k=1\/k=2\/k=3:=by omega
 rcases hk4 with rfl | rfl | rfl | rfl
 ·rw [show (2:Int) ^ 0=1 by decide]; omega
 ·rw [show (2:Int) ^ 1=2 by decide]; omega
 ·rw [show (2:Int) ^ 2=4 by decide]; omega
 ·rw [show (2:Int) ^ 3=8 by decide]; omega
def yR (p gs:List Int) (c:Nat):List Int:=eM (upF gs) p c c
def vG (p gs:List Int) (c:Nat):List Int:=eM (fun _=>nO) (eI (yR p gs c) c) c c
def W7 (p:List Int) (c:Nat):List Int:=eM (fun _=>kJ) p c c
def yU (p gs:List Int) (c:Nat):List Int:=eM (aBg gs) (EY (W7 p c) c) c c
theorem tD {gs:List Int} {c:Nat}:∀ i b,i < c->b.length=16->(upF gs i b).length=16:=fun _ _ _ _=>kU _ _ _
theorem I1 {gs:List Int} {c:Nat}:∀ i b,i < c->b.length=16->(aBg gs i b).length=16:=fun _ _ _ _=>DA _ _ _
theorem oY {c:Nat}:∀ i b,i < c->b.length=16->((fun _=>nO) i b:List Int).length=16:=fun _ b _ _=>DQ b
theorem PC {c:Nat}:∀ i b,i < c->b.length=16->((fun _=>kJ) i b:List Int).length=16:=fun _ b _ _=>PD b
theorem mC {p gs:List Int} {c:Nat} (hp:p.length=c*16):(yR p gs c).length=c*16:=lB tD hp c
theorem wI {p:List Int} {c m:Nat} (hp:p.length=c*16):(eI p m).length=c*16:=(dX _ _ _ _).trans hp
theorem QN {p:List Int} {c m:Nat} (hp:p.length=c*16):(EY p m).length=c*16:=(dX _ _ _ _).trans hp
theorem VX {p gs:List Int} {c:Nat} (hp:p.length=c*16):(vG p gs c).length=c*16:=lB oY (wI (mC hp)) c
theorem JF {p:List Int} {c:Nat} (hp:p.length=c*16):(W7 p c).length=c*16:=lB PC hp c
theorem WH {p gs:List Int} {c:Nat} (hp:p.length=c*16):(yU p gs c).length=c*16:=lB I1 (QN (JF hp)) c
theorem NH {f g:Nat->List Int->List Int} {p:List Int} {c:Nat} (hf:∀ i b,i < c->b.length=16->(f i b).length=16) (hp:p.length=c*16) (h:∀ i b,i < c->b.length=16->g i (f i b)=b):eM g (eM f p c c) c c=p:=by
 refine Eq.trans ?_ (p7 (sz:=16) (by decide) hp)
 show kX c (fun i=>if i < c then g i (aX (eM f p c c) i) else aX (eM f p c c) i)=_
 refine l0 fun i hi=>?_
 rw [if_pos hi,vU hf hp c hi,if_pos hi,h i _ hi (b6 hp hi)]
 rfl
theorem RV {p gs:List Int} {c:Nat} (hp:p.length=c*16):yU (vG p gs c) gs c=p:=by
 have h1:W7 (vG p gs c) c=eI (yR p gs c) c:=NH oY (wI (mC hp)) (fun _ b _ hb=>aC2 b hb)
 unfold yU
 rw [h1,aAd (mC hp)]
 exact NH tD hp (fun _ b _ hb=>aCC _ hb)
theorem MJ {M:Int} {p gs:List Int} {c m:Nat} (hp:p.length=c*16) (hg:AZ gs c) (h:BdL M p) (hM:0<=M):BdL (8*M) (eM (upF gs) p c m) :=
 NG tD hp h (by omega) (fun i _ hi hb hl=>aDW hb (hg.2 i hi) hl)
theorem aAw {M:Int} {p gs:List Int} {c:Nat} (hp:p.length=c*16) (hg:AZ gs c) (h:BdL M p) (hM:0<=M):BdL (72*M+84) (vG p gs c):=by
 have h1:=yA (N:=12*M+4) (mC hp) (Nat.le_refl c) (MJ (m:=c) hp hg h hM) (by omega) (by omega)
 exact NG oY (wI (mC hp)) h1 (by omega) (fun _ b _ hb hl=>aCQ hb hl (by omega) (by omega))
theorem XE {M:Int} {l:List Int} (h:∀ x ∈ l,-M<=x/\x<=M) (hM:0<=M):BdL M (fE l):=by
 intro j hj
 rw [kP] at hj
 unfold fE
 rw [aD (aJ _ hj)]
 rcases Nat.lt_or_ge j l.length with h1 | h1
 ·exact h _ (List.mem_of_getElem? (sR h1))
 ·rw [KK h1]; omega
theorem Z9 (l:List Int):(fE l).take l.length=l:=by
 apply List.ext_getElem?
 intro j
 rw [List.getElem?_take]
 split
 ·rename_i h
  unfold fE
  rw [aJ _ (by unfold aV; omega),sR h]
 ·rw [List.getElem?_eq_none (by omega)]
theorem UH (l:List Int):K8 (fE l) l.length=l:=by
 have h:(max (min (l.length:Int) ((fE l).length:Int)) 0).toNat=l.length:=by
  rw [kP]
  have:l.length<=aV l.length*16:=by unfold aV; omega
  omega
 unfold K8
 rw [h,Z9]
theorem j3 (l:List Int) (size:Int):AZ (fW l size) (aV l.length):=by
 have hf:∀ i,(jM l i).length=4:=fun i=>mA _ 4
 refine ⟨jZ hf _,fun i hi=>?_⟩
 have hl:(eV 4 (fW l size) i).length=4:=pG (jZ hf _) hi
 have hget:∀ j,j < 4->(eV 4 (fW l size) i)[j]? = if i < (if 55<=size then 0 else aV l.length) then (jM l i)[j]? else some 0:=fun j hj=>by
  rw [s8 _ _ hj]
  exact qM hf hi hj
 by_cases h:i < (if 55<=size then 0 else aV l.length)
 ·have:eV 4 (fW l size) i=jM l i:=by
   apply List.ext_getElem?
   intro j
   rcases Nat.lt_or_ge j 4 with hj | hj
   ·rw [hget j hj,if_pos h]
   ·rw [List.getElem?_eq_none (by omega),List.getElem?_eq_none (by rw [hf]; exact hj)]
  rw [this]
  exact aBX _
 ·have:eV 4 (fW l size) i=[0,0,0,0]:=by
   apply List.ext_getElem?
   intro j
   rcases Nat.lt_or_ge j 4 with hj | hj
   ·rw [hget j hj,if_neg h]
    match j,hj with
    | 0,_ | 1,_ | 2,_ | 3,_=>rfl
   ·rw [List.getElem?_eq_none (by omega),List.getElem?_eq_none (by exact hj)]
  rw [this]
  exact ⟨rfl,rfl⟩
end
section
open Go.RowKit
end
end Go.Proofs.YtnbbfblaipjcmaaGreatDoor

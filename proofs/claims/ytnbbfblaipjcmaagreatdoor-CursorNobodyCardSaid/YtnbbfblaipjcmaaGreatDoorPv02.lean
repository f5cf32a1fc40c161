/- oL, WaveA. Conditions: as each theorem states. -/
import Derived.Deep.Slices
import Derived.Test.YtnbbfblaipjcmaaGreatDoorPv01
/- What an argument that can be read as data looks like: by a small universe of types. -/
set_option maxHeartbeats 1000000
namespace Go.Proofs.YtnbbfblaipjcmaaGreatDoor
section
open Go.ChangeShapes Go.WideShapes Go.ChangeAt Go.RowKit Go.Deep
inductive Ty where
 | int (k:IntKind)
 | bool
 | str
 | slice (sz:Nat) (e:Ty)
 | unit
 | pair (a:Ty) (sz:Nat) (b:Ty)
def oL (w:World):Ty->List Value->Prop
 | .int k,cs=>∃ n:Int,cs=[.int k n]/\k.min<=n/\n<=k.max
 | .bool,cs=>∃ b,cs=[.bool b]
 | .str,cs=>∃ s:ByteArray,cs=[.string s]/\s.size<=9223372036854775807
 | .slice sz e,cs=>∃ (a:Option Addr) (len cap:Nat),cs=[.slice a len cap]/\len<=cap/\cap<=9223372036854775807/\(a=none->len=0/\cap=0) /\
   ∀ i,i < len->∃ (ad:Addr) (cs':List Value),a=some ad/\cs'.length=sz/\(∀ j,j < sz->w.cell? (ad.add (i*sz+j))=cs'[j]?)/\oL w e cs'
 | .unit,cs=>cs=[]
 | .pair a _ b,cs=>∃ c1 c2,cs=c1 ++ c2/\oL w a c1/\oL w b c2
def iR (P:Program) (f:TypeId->Option Ty) (total:Nat):List Field->Nat->Option Ty
 | [],off=>if off=total then some .unit else none
 | fd :: r,off=>if fd.offset=off then (f fd.type).bind fun T=>(iR P f total r (off+P.cellsOf fd.type)).map fun R=>.pair T (P.cellsOf fd.type) R else none
def aCk (T:Ty) (sz:Nat):Nat->Ty
 | 0=>.unit
 | n+1=>.pair T sz (aCk T sz n)
def tyOf (P:Program):Nat->TypeId->Option Ty
 | 0,_=>none
 | n+1,t=>match P.underlying t with
  | some .bool=>some .bool
  | some (.int k)=>some (.int k)
  | some .string=>some .str
  | some (.slice e)=>(tyOf P n e).map (.slice (P.cellsOf e))
  | some (.struct fs)=>iR P (tyOf P n) (P.cellsOf t) fs.toList 0
  | some (.array m e)=>(tyOf P n e).bind fun T=>if m*P.cellsOf e=P.cellsOf t then some (aCk T (P.cellsOf e) m) else none
  | _=>none
section
variable {H : Type} {enc : TypeId × Value → H} {P : Program} {w : World} {base : Nat} {spare : Nat → Bool} {held : Bool}
theorem wU (f:TypeId->Option Ty) (total:Nat) (all:List Value) (hall:all.length=total)
  (g:TypeId->List Value->Prop) (hg:∀ t T cs,f t=some T->g t cs->oL w T cs) :
  ∀ (fs:List Field) (off:Nat) (T:Ty),iR P f total fs off=some T->(∀ fd ∈ fs,g fd.type ((all.drop fd.offset).take (P.cellsOf fd.type)))->off<=total->oL w T (all.drop off)
 | [],off,T,h,_,_=>by
  unfold iR at h
  split at h
  ·injection h with h; subst h
   show all.drop off=[]
   apply List.drop_eq_nil_of_le; omega
  ·cases h
 | fd :: r,off,T,h,hf,ho=>by
  unfold iR at h
  split at h
  ·rename_i he
   simp only [Option.bind_eq_some_iff,Option.map_eq_some_iff] at h
   obtain ⟨T1,h1,R,hR,rfl⟩:=h
   have h2:=hg _ _ _ h1 (hf fd (by simp))
   rw [he] at h2
   have key:off+P.cellsOf fd.type<=total->oL w (Ty.pair T1 (P.cellsOf fd.type) R) (all.drop off):=fun hle=>by
    have h3:=wU f total all hall g hg r _ R hR (fun x hx=>hf x (by simp [hx])) hle
    refine ⟨_,_,(List.take_append_drop (P.cellsOf fd.type) (all.drop off)).symm,h2,?_⟩
    rw [List.drop_drop]; exact h3
   refine key ?_
   have:∀ (fs:List Field) (o:Nat) (T:Ty),iR P f total fs o=some T->o<=total:=by
    intro fs
    induction fs with
    | nil=>intro o T h; unfold iR at h; split at h <;> simp_all
    | cons a r ih =>
     intro o T h
     unfold iR at h
     split at h
     ·simp only [Option.bind_eq_some_iff,Option.map_eq_some_iff] at h
      obtain ⟨_,_,R',hR',_⟩:=h
      have:=ih _ _ hR'
      omega
     ·cases h
   exact this _ _ _ hR
  ·cases h
theorem J2 (T:Ty) (sz:Nat) (all:List Value):∀ (m k:Nat),all.length=(k+m)*sz->(∀ i,k<=i->i < k+m->oL w T ((all.drop (i*sz)).take sz))->oL w (aCk T sz m) (all.drop (k*sz))
 | 0,k,hl,_=>by
  show all.drop _=[]
  apply List.drop_eq_nil_of_le; simp at hl; omega
 | m+1,k,hl,h=>by
  have h1:=J2 T sz all m (k+1) (by rw [hl]; congr 1; omega) (fun i hi hi2=>h i (by omega) (by omega))
  refine ⟨_,_,(List.take_append_drop sz (all.drop (k*sz))).symm,h k (Nat.le_refl _) (by omega),?_⟩
  rw [List.drop_drop,show k*sz+sz=(k+1)*sz by rw [Nat.add_mul]; omega]
  exact h1
theorem wV (hmax:maxLen=9223372036854775807):∀ (n:Nat) (t:TypeId) (T:Ty),tyOf P n t=some T->∀ (fuel:Nat) (cs:List Value) x,DataW.trod enc P w base spare held fuel t cs=some x->oL w T cs
 | 0,_,_,h,_,_,_,_=>by simp [tyOf] at h
 | n+1,t,T,h,fuel,cs,x,hx=>by
  unfold tyOf at h
  split at h
  ·rename_i hu
   injection h with h; subst h
   obtain ⟨b,rfl,_⟩:=DataW.trod_bool hu hx
   exact ⟨b,rfl⟩
  ·rename_i k hu
   injection h with h; subst h
   obtain ⟨m,rfl,_,hw⟩:=DataW.trod_int hu hx
   simp only [Lit.wf,Bool.and_eq_true,decide_eq_true_eq] at hw
   exact ⟨m,rfl,hw.1,hw.2⟩
  ·rename_i hu
   injection h with h; subst h
   obtain ⟨s,rfl,_,hw⟩:=DataW.trod_string hu hx
   exact ⟨s,rfl,by omega⟩
  ·rename_i e hu
   simp only [Option.map_eq_some_iff] at h
   obtain ⟨E,he,rfl⟩:=h
   rcases open_slice hu hx with ⟨rfl,_⟩ | ⟨a,len,cap,m,n',D,Pl,rfl,_,hl,hc,hm,_,hel⟩
   ·exact ⟨none,0,0,rfl,Nat.le_refl _,by omega,fun _=>⟨rfl,rfl⟩,fun i hi=>by omega⟩
   ·refine ⟨some a,len,cap,rfl,hl,by omega,nofun,fun i hi=>?_⟩
    obtain ⟨cs',hc',ht'⟩:=hel i (by split at hm <;> omega)
    obtain ⟨_,hcl,hat⟩:=World.cells?_some hc'
    refine ⟨a,cs',rfl,hcl,fun j hj=>?_,wV hmax n e E he n' cs' _ ht'⟩
    rw [<-Go.Deep.add_add]; exact hat j hj
  ·rename_i fs hu
   obtain ⟨xs,n',_,_,hlen,hxl,hf⟩:=DataW.trod_struct hu hx
   have:=wU (w:=w) (P:=P) (tyOf P n) (P.cellsOf t) cs hlen (fun t cs=>∃ x,DataW.trod enc P w base spare held n' t cs=some x)
    (fun t T cs ht ⟨y,hy⟩=>wV hmax n t T ht n' cs y hy) fs.toList 0 T h (fun fd hfd=>by
     obtain ⟨i,hi,rfl⟩:=List.mem_iff_getElem.1 hfd
     have hi':i < fs.size:=by simpa using hi
     have h1:=hf i fs[i] (by simp [hi'])
     have h2:xs[i]? = some xs[i]:=List.getElem?_eq_getElem (by omega)
     exact ⟨_,by simpa using h1.trans h2⟩) (Nat.zero_le _)
   simpa using this
  ·rename_i m e hu
   simp only [Option.bind_eq_some_iff] at h
   obtain ⟨E,he,h⟩:=h
   split at h
   ·rename_i hm
    injection h with h; subst h
    obtain ⟨xs,n',_,_,hlen,hxl,hf⟩:=DataW.trod_array hu hx
    have:=J2 (w:=w) E (P.cellsOf e) cs m 0 (by rw [hlen,Nat.zero_add]; exact hm.symm) (fun i _ hi=>by
     have h1:=hf i (by omega)
     have h2:xs[i]? = some xs[i]:=List.getElem?_eq_getElem (by omega)
     exact wV hmax n e E he n' _ _ (h1.trans h2))
    simpa using this
   ·cases h
  ·cases h
def Arg (w:World) (T:Ty) (v:Value):Prop:=match T with
 | .unit=>∃ cs:List Value,v=.agg cs.toArray/\oL w T cs
 | .pair ..=>∃ cs:List Value,v=.agg cs.toArray/\oL w T cs
 | _=>oL w T [v]
theorem arg_of {n:Nat} {t:TypeId} {T:Ty} {v:Value} {r:Reach} {b0:Nat} {d:DataW H} {p:List MemPlace} (ht:tyOf P n t=some T) (hv:Value.okWide P w r b0 t v)
  (h:DataW.Trod enc P w base spare held t v d p):Arg w T v:=by
 obtain ⟨fuel,hf⟩:=h
 have hs:=wV (w:=w) rfl n t T ht fuel _ _ hf
 cases n with
 | zero=>simp [tyOf] at ht
 | succ n =>
  unfold tyOf at ht
  split at ht
  ·rename_i hu
   injection ht with ht; subst ht
   obtain ⟨b,rfl⟩:=okWide_bool hu hv
   exact hs
  ·rename_i hu
   injection ht with ht; subst ht
   obtain ⟨b,rfl⟩:=okWide_int hu hv
   exact hs
  ·rename_i hu
   injection ht with ht; subst ht
   obtain ⟨b,rfl⟩:=okWide_string hu hv
   exact hs
  ·rename_i hu
   simp only [Option.map_eq_some_iff] at ht
   obtain ⟨E,he,rfl⟩:=ht
   obtain ⟨a,l,c,rfl⟩:=okWide_slice hu hv
   exact hs
  ·rename_i fs hu
   obtain ⟨cs,rfl,_⟩:=okWide_struct hu hv
   have key:∀ (fs:List Field) (o:Nat),iR P (tyOf P n) (P.cellsOf t) fs o=some T->T=.unit\/∃ a b c,T=.pair a b c:=by
    intro fs o h
    cases fs with
    | nil=>unfold iR at h; split at h <;> simp_all
    | cons a r =>
     unfold iR at h
     split at h
     ·simp only [Option.bind_eq_some_iff,Option.map_eq_some_iff] at h
      obtain ⟨_,_,R',_,rfl⟩:=h
      exact .inr ⟨_,_,_,rfl⟩
     ·cases h
   rcases key _ _ ht with rfl | ⟨a,b,c,rfl⟩
   ·exact ⟨cs.toList,by simp,hs⟩
   ·exact ⟨cs.toList,by simp,hs⟩
  ·rename_i m e hu
   simp only [Option.bind_eq_some_iff] at ht
   obtain ⟨E,he,ht⟩:=ht
   split at ht
   ·injection ht with ht; subst ht
    have:∃ cs,v=.agg cs:=by
     simp only [Value.okWide,hu] at hv
     obtain ⟨cs,h,_⟩:=hv
     exact ⟨cs,h⟩
    obtain ⟨cs,rfl⟩:=this
    cases m with
    | zero=>exact ⟨cs.toList,by simp,hs⟩
    | succ m=>exact ⟨cs.toList,by simp,hs⟩
   ·cases ht
  ·cases ht
end
end
section
open Go.RowKit
def mF (c:UInt8):Bool:=decide (33<=c.toNat) && decide (c.toNat<=126)
def dK (s:ByteArray):Bool:=decide (1<=s.size) && decide (s.size<=32) && s.data.toList.all mF
theorem QG (s:ByteArray) (k:Nat) (h:k < s.size):(s.data.toList.take (k+1)).all mF=((s.data.toList.take k).all mF && mF s[k]):=by
 have h':k < s.data.toList.length:=by simpa using h
 rw [List.take_succ_eq_append_getElem h',List.all_append]; simp; rfl
theorem wH (s:ByteArray) (k:Nat) (h:k < s.size) (hb:mF s[k]=false):dK s=false:=by
 have h':k < s.data.toList.length:=by simpa using h
 have:s.data.toList.all mF=false:=by
  rw [List.all_eq_false]
  exact ⟨s.data.toList[k],List.getElem_mem h',by rw [show s.data.toList[k]=s[k] from rfl,hb]; simp⟩
 unfold dK; simp only [this,Bool.and_false]
theorem PE (s:ByteArray) (h0:s.size ≠ 0) (h1:s.size<=32) (h:s.data.toList.all mF=true):dK s=true:=by
 have h2:decide (1<=s.size)=true:=decide_eq_true (by omega)
 have h3:decide (s.size<=32)=true:=decide_eq_true h1
 unfold dK; rw [h,h2,h3]; rfl
theorem wL (c:UInt8) (h:(c.toNat:Int)<=32\/127<=(c.toNat:Int)):mF c=false:=by
 unfold mF; simp only [Bool.and_eq_false_iff,decide_eq_false_iff_not]; omega
theorem QH (c:UInt8) (h:32 < (c.toNat:Int)/\(c.toNat:Int) < 127):mF c=true:=by
 unfold mF; simp only [Bool.and_eq_true,decide_eq_true_eq]; omega
theorem uF (s:ByteArray) (w:World) :
  Calls Tryz.prog 194 #[.string s] w fun e w'=>e=.returned (.bool (dK s))/\w=w':=by
 by_cases h0:s.size=0
 ·have H:dK s=false:=by unfold dK; simp [h0]
  obtain rfl:=NN h0
  rw [H]
  go_enter Tryz.func194,Tryz.ntmps194
  go_wp2
  go_ret
  exact ⟨rfl,rfl⟩
 ·have h1:=CY h0
  by_cases h2:32 < s.size
  ·have H:dK s=false:=by unfold dK; simp; omega
   rw [H]
   go_enter Tryz.func194,Tryz.ntmps194
   go_wp2
   go_ret
   exact ⟨rfl,rfl⟩
  ·go_enter Tryz.func194,Tryz.ntmps194
   go_wp2
   go_loop [13] (fun i=>∃ k:Nat,k<=s.size/\i=.int .i64 k/\(s.data.toList.take k).all mF=true) (fun i=>s.size - (intOf i).toNat)
   case atStart=>exact ⟨0,Nat.zero_le _,rfl,by simp⟩
   case round =>
    obtain ⟨k,hk,rfl,hall⟩:=hrel
    have Hall:=Lib.hid hall; clear hall
    by_cases hlt:k < s.size
    ·go_wp2
     ·go_ret
      rw [wH s k hlt (wL _ (by assumption))]
      exact ⟨rfl,rfl⟩
     ·go_round
      case rel=>exact ⟨k+1,by omega,by go_num,by rw [QG s k hlt,Hall.out,QH _ (by assumption)]; rfl⟩
      case measure=>simp [intOf]; omega
     ·go_ret
      rw [wH s k hlt (wL _ (.inl (by assumption)))]
      exact ⟨rfl,rfl⟩
    ·go_wp2
     go_ret
     rw [PE s h0 (by omega) (by rw [List.take_of_length_le (by simp; omega)] at Hall; exact Hall.out)]
     exact ⟨rfl,rfl⟩
def kM (is:Bool) (f t n:Int):Bool:=if is then decide (0<=f) && decide (f < t) && decide (t<=n) else decide (f=0) && decide (t=0)
theorem qU (b:Bool) (f t n:Int) (w:World) :
  Calls Tryz.prog 195 #[.bool b,.int .i64 f,.int .i64 t,.int .i64 n] w fun e w'=>e=.returned (.bool (kM b f t n))/\w=w':=by
 cases b
 all_goals
  go_enter Tryz.func195,Tryz.ntmps195
  go_wp2
  all_goals
   go_ret
   exact ⟨dI (by rw [Bool.eq_iff_iff]; simp [kM]; omega),rfl⟩
structure MetaV where
 name:ByteArray
 length:Int
 rate:Int
 channels:Int
 loop:Bool
 from_:Int
 to_:Int
 sums:Int
 first:Int
def MetaV.right (m:MetaV):Bool:=dK m.name && decide (1<=m.length) && decide (m.length<=1048576) && decide (1<=m.rate) && decide (m.rate<=192000) && (decide (m.channels=1) || decide (m.channels=2)) && kM m.loop m.from_ m.to_ m.length
theorem F8 (nm:ByteArray) (len rate ch:Int) (lp:Bool) (f t s1 s2:Int) (w:World) :
  Calls Tryz.prog 180 #[.agg #[.string nm,.int .i64 len,.int .i64 rate,.int .i64 ch,.bool lp,.int .i64 f,.int .i64 t,.int .i64 s1,.int .i64 s2]] w
   fun e w'=>e=.returned (.bool (MetaV.right ⟨nm,len,rate,ch,lp,f,t,s1,s2⟩))/\Below w.heap.size w w':=by
 cases hn:dK nm
 all_goals
  have Hn:=Lib.hid hn; clear hn
  go_enter Tryz.func180,Tryz.ntmps180
  go_wp2_with (first | (go_at_call 194; refine (uF _ _).mono ?_; rintro e w' ⟨rfl,rfl⟩; rw [Hn.out]) | (go_at_call 195; refine (qU _ _ _ _ _).mono ?_; rintro e w' ⟨rfl,rfl⟩))
 all_goals
  go_ret
  exact ⟨dI (by rw [Bool.eq_iff_iff]; unfold MetaV.right; rw [Hn.out]; generalize kM lp f t len=q; cases q <;> simp <;> omega),(Below.refl _ _).alloc (Nat.le_refl _) _⟩
end
end Go.Proofs.YtnbbfblaipjcmaaGreatDoor

/- jY, WaveA. Conditions: as each theorem states. -/
import Derived.Deep.Slices
import Derived.Test.YtbpgfkjhclpbdaaGreatDoorPw01
/- What an argument that can be read as data looks like: by a small universe of types. -/
set_option maxHeartbeats 1000000
namespace Go.Proofs.YtbpgfkjhclpbdaaGreatDoor
open Tryz
open Go.RowKit
section
open Go.ChangeShapes Go.WideShapes Go.ChangeAt Go.RowKit Go.Deep
inductive Ty where
 | int (k:IntKind)
 | bool
 | str
 | slice (sz:Nat) (e:Ty)
 | unit
 | pair (a:Ty) (sz:Nat) (b:Ty)
def jY(w:World):Ty->List Value->Prop
 | .int k,d=>∃ n:Int,d=[.int k n]/\k.min<=n/\n<=k.max
 | .bool,d=>∃ b,d=[.bool b]
 | .str,d=>∃ s:ByteArray,d=[.string s]/\s.size<=9223372036854775807
 | .slice sz e,d=>∃ (a:Option Addr) (len cap:Nat),d=[.slice a len cap]/\len<=cap/\cap<=9223372036854775807/\(a=none->len=0/\cap=0) /\
   ∀ i,i<len->∃ (ad:Addr) (h:List Value),a=some ad/\h.length=sz/\(∀ j,j<sz->w.cell? (ad.add (i*sz+j))=h[j]?)/\jY w e h
 | .unit,d=>d=[]
 | .pair a _ b,d=>∃ t z,d=t++z/\jY w a t/\jY w b z
def jQ(P:Program)(f:TypeId->Option Ty)(d:Nat):List Field->Nat->Option Ty
 | [],off=>if off=d then some .unit else none
 | fd::r,off=>if fd.offset=off then (f fd.type).bind fun T=>(jQ P f d r (off+P.cellsOf fd.type)).map fun R=>.pair T (P.cellsOf fd.type) R else none
def aD5(T:Ty)(sz:Nat):Nat->Ty
 | 0=>.unit
 | n+1=>.pair T sz (aD5 T sz n)
def tyOf(P:Program):Nat->TypeId->Option Ty
 | 0,_=>none
 | n+1,t=>match P.underlying t with
  | some .bool=>some .bool
  | some (.int k)=>some (.int k)
  | some .string=>some .str
  | some (.slice e)=>(tyOf P n e).map (.slice (P.cellsOf e))
  | some (.struct fs)=>jQ P (tyOf P n) (P.cellsOf t) fs.toList 0
  | some (.array m e)=>(tyOf P n e).bind fun T=>if m*P.cellsOf e=P.cellsOf t then some (aD5 T (P.cellsOf e) m) else none
  | _=>none
section
variable {H : Type} {enc : TypeId × Value → H} {P : Program} {w : World} {base : Nat} {spare : Nat → Bool} {held : Bool}
theorem yZ(f:TypeId->Option Ty)(d:Nat)(all:List Value)(hall:all.length=d)
 (g:TypeId->List Value->Prop)(F:∀ t T z,f t=some T->g t z->jY w T z):
  ∀ (fs:List Field) (off:Nat) (T:Ty),jQ P f d fs off=some T->(∀ fd∈fs,g fd.type ((all.drop fd.offset).take (P.cellsOf fd.type)))->off<=d->jY w T (all.drop off)
 | [],off,T,h,_,_=>by
  unfold jQ at h;split at h
  ·injection h with h;subst h
   show all.drop off=[];apply aJ7;omega
  ·cases h
 | fd::r,off,T,h,hf,ho=>by
  unfold jQ at h;split at h
  ·rename_i he
   simp only[aI6,aIM]at h;obtain⟨G,h1,R,hR,rfl⟩:=h;have h2:=F _ _ _ h1 (hf fd (by simp));rw[he]at h2;have W:off+P.cellsOf fd.type<=d->jY w (Ty.pair G (P.cellsOf fd.type) R) (all.drop off):=fun O=>by
    have I:=yZ f d all hall g F r _ R hR (fun x U=>hf x (by simp[U])) O;refine⟨_,_,(aIK (P.cellsOf fd.type) (all.drop off)).symm,h2,?_⟩;rw[List.drop_drop];exact I
   refine W ?_;have:∀ (fs:List Field) (o:Nat) (T:Ty),jQ P f d fs o=some T->o<=d:=by
    intro fs
    induction fs with
    | nil=>intro o T h;unfold jQ at h;split at h <;> simp_all
    | cons a r V =>
     intro o T h;unfold jQ at h;split at h
     ·simp only[aI6,aIM]at h;obtain⟨_,_,Z,J,_⟩:=h;have:=V _ _ J;omega
     ·cases h
   exact this _ _ _ hR
  ·cases h
theorem MM(T:Ty)(sz:Nat)(all:List Value):∀ (m k:Nat),all.length=(k+m)*sz->(∀ i,k<=i->i<k+m->jY w T ((all.drop (i*sz)).take sz))->jY w (aD5 T sz m) (all.drop (k*sz))
 | 0,k,d,_=>by
  show all.drop _=[];apply aJ7;simp at d;omega
 | m+1,k,d,h=>by
  have h1:=MM T sz all m (k+1) (by rw[d];congr 1;omega) (fun i hi t=>h i (by omega) (by omega));refine⟨_,_,(aIK sz (all.drop (k*sz))).symm,h k (LE _) (by omega),?_⟩;rw[List.drop_drop,show k*sz+sz=(k+1)*sz by rw[aJq];omega];exact h1
theorem y8(O:maxLen=9223372036854775807):∀ (n:Nat) (t:TypeId) (T:Ty),tyOf P n t=some T->∀ (fuel:Nat) (z:List Value) x,DataW.trod enc P w base spare held fuel t z=some x->jY w T z
 | 0,_,_,h,_,_,_,_=>by simp[tyOf]at h
 | n+1,t,T,h,fuel,z,x,F=>by
  unfold tyOf at h;split at h
  ·rename_i d
   injection h with h;subst h
   obtain⟨b,rfl,_⟩:=DataW.trod_bool d F;exact⟨b,rfl⟩
  ·rename_i k d
   injection h with h;subst h
   obtain⟨m,rfl,_,I⟩:=DataW.trod_int d F;simp only[Lit.wf,aGu,aGy]at I;exact⟨m,rfl,I.1,I.2⟩
  ·rename_i d
   injection h with h;subst h
   obtain⟨s,rfl,_,I⟩:=DataW.trod_string d F;exact⟨s,rfl,by omega⟩
  ·rename_i e d
   simp only[aIM]at h;obtain⟨E,he,rfl⟩:=h;rcases open_slice d F with ⟨rfl,_⟩|⟨a,len,cap,m,G,D,Pl,rfl,_,hl,hc,hm,_,aA⟩
   ·exact⟨none,0,0,rfl,LE _,by omega,fun _=>⟨rfl,rfl⟩,fun i hi=>by omega⟩
   ·refine⟨some a,len,cap,rfl,hl,by omega,nofun,fun i hi=>?_⟩;obtain⟨U,W,aF⟩:=aA i (by split at hm <;> omega);obtain⟨_,Z,V⟩:=World.cells?_some W;refine⟨a,U,rfl,Z,fun j hj=>?_,y8 O n e E he G U _ aF⟩;rw[<-Go.Deep.add_add];exact V j hj
  ·rename_i fs d
   obtain⟨xs,G,_,_,J,aG,hf⟩:=DataW.trod_struct d F;have:=yZ (w:=w) (P:=P) (tyOf P n) (P.cellsOf t) z J (fun t z=>∃ x,DataW.trod enc P w base spare held G t z=some x)
    (fun t T z ht ⟨y,hy⟩=>y8 O n t T ht G z y hy) fs.toList 0 T h (fun fd aB=>by
     obtain⟨i,hi,rfl⟩:=aHz.1 aB;have aC:i<fs.size:=by simpa using hi
     have h1:=hf i fs[i] (by simp[aC]);have h2:xs[i]? = some xs[i]:=TT (by omega);exact⟨_,by simpa using h1.trans h2⟩) (aG3 _)
   simpa using this
  ·rename_i m e d
   simp only[aI6]at h;obtain⟨E,he,h⟩:=h;split at h
   ·rename_i hm
    injection h with h;subst h
    obtain⟨xs,G,_,_,J,aG,hf⟩:=DataW.trod_array d F;have:=MM (w:=w) E (P.cellsOf e) z m 0 (by rw[J,aGn];exact hm.symm) (fun i _ hi=>by
     have h1:=hf i (by omega);have h2:xs[i]? = some xs[i]:=TT (by omega);exact y8 O n e E he G _ _ (h1.trans h2))
    simpa using this
   ·cases h
  ·cases h
def Arg(w:World)(T:Ty)(v:Value):Prop:=match T with
 | .unit=>∃ d:List Value,v=.agg d.toArray/\jY w T d
 | .pair ..=>∃ d:List Value,v=.agg d.toArray/\jY w T d
 | _=>jY w T [v]
theorem arg_of{n:Nat}{t:TypeId}{T:Ty}{v:Value}{r:Reach}{J:Nat}{d:DataW H}{p:List MemPlace}(ht:tyOf P n t=some T)(I:Value.okWide P w r J t v)
 (h:DataW.Trod enc P w base spare held t v d p):Arg w T v:=by
 obtain⟨fuel,hf⟩:=h;have G:=y8 (w:=w) rfl n t T ht fuel _ _ hf;cases n with
 | zero=>simp[tyOf]at ht
 | succ n =>
  unfold tyOf at ht;split at ht
  ·rename_i z
   injection ht with ht;subst ht
   obtain⟨b,rfl⟩:=okWide_bool z I;exact G
  ·rename_i z
   injection ht with ht;subst ht
   obtain⟨b,rfl⟩:=okWide_int z I;exact G
  ·rename_i z
   injection ht with ht;subst ht
   obtain⟨b,rfl⟩:=okWide_string z I;exact G
  ·rename_i z
   simp only[aIM]at ht;obtain⟨E,he,rfl⟩:=ht;obtain⟨a,l,c,rfl⟩:=okWide_slice z I;exact G
  ·rename_i fs z
   obtain⟨F,rfl,_⟩:=okWide_struct z I;have O:∀ (fs:List Field) (o:Nat),jQ P (tyOf P n) (P.cellsOf t) fs o=some T->T=.unit\/∃ a b c,T=.pair a b c:=by
    intro fs o h;cases fs with
    | nil=>unfold jQ at h;split at h <;> simp_all
    | cons a r =>
     unfold jQ at h;split at h
     ·simp only[aI6,aIM]at h;obtain⟨_,_,U,_,rfl⟩:=h;exact .inr ⟨_,_,_,rfl⟩
     ·cases h
   rcases O _ _ ht with rfl|⟨a,b,c,rfl⟩
   ·exact⟨F.toList,by simp,G⟩
   ·exact⟨F.toList,by simp,G⟩
  ·rename_i m e z
   simp only[aI6]at ht;obtain⟨E,he,ht⟩:=ht;split at ht
   ·injection ht with ht;subst ht
    have:∃ F,v=.agg F:=by
     simp only[Value.okWide,z]at I;obtain⟨F,h,_⟩:=I;exact⟨F,h⟩
    obtain⟨F,rfl⟩:=this;cases m with
    | zero=>exact⟨F.toList,by simp,G⟩
    | succ m=>exact⟨F.toList,by simp,G⟩
   ·cases ht
  ·cases ht
end
theorem aEQ:IntKind.min .i64 = -9223372036854775808:=by decide
theorem aEO:IntKind.max .i64=9223372036854775807:=by decide
end
def nF(c:UInt8):Bool:=decide (33<=c.toNat)&&decide (c.toNat<=126)
def dY(s:ByteArray):Bool:=decide (1<=s.size)&&decide (s.size<=32)&&s.data.toList.all nF
theorem UB(s:ByteArray)(k:Nat)(h:k<s.size):(s.data.toList.take (k+1)).all nF=((s.data.toList.take k).all nF&&nF s[k]):=by
 have d:k<s.data.toList.length:=by simpa using h
 rw[aHG d,List.all_append];simp;rfl
theorem yO(s:ByteArray)(k:Nat)(h:k<s.size)(hb:nF s[k]=false):dY s=false:=by
 have d:k<s.data.toList.length:=by simpa using h
 have:s.data.toList.all nF=false:=by
  rw[aJJ];exact⟨s.data.toList[k],aIj d,by rw[show s.data.toList[k]=s[k] from rfl,hb];simp⟩
 unfold dY;simp only[this,aJa]
theorem S0(s:ByteArray)(t:s.size≠0)(h1:s.size<=32)(h:s.data.toList.all nF=true):dY s=true:=by
 have h2:decide (1<=s.size)=true:=aGs (by omega);have d:decide (s.size<=32)=true:=aGs h1;unfold dY;rw[h,h2,d];rfl
theorem yT(c:UInt8)(h:(c.toNat:Int)<=32\/127<=(c.toNat:Int)):nF c=false:=by
 unfold nF;simp only[aJ5,aI8];omega
theorem UC(c:UInt8)(h:32<(c.toNat:Int)/\(c.toNat:Int)<127):nF c=true:=by
 unfold nF;simp only[aGu,aGy];omega
theorem vT(s:ByteArray)(w:World):
  Calls prog 167 #[.string s] w fun e w'=>e=.returned (.bool (dY s))/\w=w':=by
 by_cases d:s.size=0
 ·have H:dY s=false:=by unfold dY;simp[d]
  obtain rfl:=QV d;rw[H];go_enter func167,ntmps167;go_wp2
  go_ret
  exact⟨rfl,rfl⟩
 ·have h1:=E7 d
  by_cases h2:32<s.size
  ·have H:dY s=false:=by unfold dY;simp;omega
   rw[H];go_enter func167,ntmps167;go_wp2
   go_ret
   exact⟨rfl,rfl⟩
  ·go_enter func167,ntmps167;go_wp2
   go_loop [13] (fun i=>∃ k:Nat,k<=s.size/\i=.int .i64 k/\(s.data.toList.take k).all nF=true) (fun i=>s.size-(intOf i).toNat)
   case atStart=>exact⟨0,aG3 _,rfl,by simp⟩
   case round =>
    obtain⟨k,hk,rfl,hall⟩:=hrel;have h:=aGC hall;clear hall
    by_cases hlt:k<s.size
    ·go_wp2
     ·go_ret
      rw[yO s k hlt (yT _ (by assumption))];exact⟨rfl,rfl⟩
     ·go_round
      case rel=>exact⟨k+1,by omega,by go_num,by rw[UB s k hlt,h.out,UC _ (by assumption)];rfl⟩
      case measure=>simp[intOf];omega
     ·go_ret
      rw[yO s k hlt (yT _ (.inl (by assumption)))];exact⟨rfl,rfl⟩
    ·go_wp2
     go_ret
     rw[S0 s d (by omega) (by rw[aGW (by simp;omega)]at h;exact h.out)];exact⟨rfl,rfl⟩
def lK(is:Bool)(f t n:Int):Bool:=if is then decide (0<=f)&&decide (f<t)&&decide (t<=n) else decide (f=0)&&decide (t=0)
theorem r9(b:Bool)(f t n:Int)(w:World):
  Calls prog 168 #[.bool b,.int .i64 f,.int .i64 t,.int .i64 n] w fun e w'=>e=.returned (.bool (lK b f t n))/\w=w':=by
 cases b
 all_goals
  go_enter func168,ntmps168;go_wp2
  all_goals
   go_ret
   exact⟨dU (by rw[aH9];simp[lK];omega),rfl⟩
structure aFK where
 name:ByteArray
 length:Int
 rate:Int
 channels:Int
 loop:Bool
 from_:Int
 to_:Int
 sums:Int
 first:Int
def aFK.right(m:aFK):Bool:=dY m.name&&decide (1<=m.length)&&decide (m.length<=1048576)&&decide (1<=m.rate)&&decide (m.rate<=192000)&&(decide (m.channels=1)||decide (m.channels=2))&&lK m.loop m.from_ m.to_ m.length
theorem JG(nm:ByteArray)(len rate ch:Int)(lp:Bool)(f t z F:Int)(w:World):
  Calls prog 151 #[.agg #[.string nm,.int .i64 len,.int .i64 rate,.int .i64 ch,.bool lp,.int .i64 f,.int .i64 t,.int .i64 z,.int .i64 F]] w
   fun e w'=>e=.returned (.bool (aFK.right ⟨nm,len,rate,ch,lp,f,t,z,F⟩))/\Below w.heap.size w w':=by
 cases h:dY nm
 all_goals
  have d:=aGC h;clear h;go_enter func151,ntmps151;go_wp2_with (first|(go_at_call 167;refine (vT _ _).mono ?_;rintro e w' ⟨rfl,rfl⟩;rw[d.out])|(go_at_call 168;refine (r9 _ _ _ _ _).mono ?_;rintro e w' ⟨rfl,rfl⟩))
 all_goals
  go_ret
  exact⟨dU (by rw[aH9];unfold aFK.right;rw[d.out];generalize lK lp f t len=q;cases q <;> simp <;> omega),(aGj _ _).alloc (LE _) _⟩
end Go.Proofs.YtbpgfkjhclpbdaaGreatDoor

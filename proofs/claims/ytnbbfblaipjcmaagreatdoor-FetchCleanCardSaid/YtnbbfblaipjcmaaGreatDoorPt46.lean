/- ParD. Conditions: as each theorem states. -/
import Derived.Test.YtnbbfblaipjcmaaGreatDoorPt44
import Derived.Test.YtnbbfblaipjcmaaGreatDoorPt41
import Derived.Test.YtnbbfblaipjcmaaGreatDoorPt45
namespace Go.Proofs.YtnbbfblaipjcmaaGreatDoor
open Go.RowKit Go.Lib
theorem step_app {P:Program} {ops:Array Oper} {o:Oper} {a:Act} {w:World} {K:Act->World->Prop} {Q:Exit->Act->World->Prop} {E:Prop}
  (hg:o.guard=none) (s x:Operand) (t:TypeId) (hop:o.op=Op.call { callee:=Callee.builtin Builtin.append,args:=#[s,x],argTypes:=#[t,t] })
  (base:Nat) (e:TypeId) (i:TypeInfo) (z:Value) (size bytes:Nat) (ht:P.underlying t=some (.slice e)) (hi:P.info? e=some i) (hz:i.zero=some z)
  (hsize:i.size=size) (hby:i.bytes=bytes) (hzs:z.cells.size=size) (hsz:0 < size)
  (v:Value) (n:Nat) (xs:List Value) (hs:a.eval s=v) (hown:w.ownsRow base e size v n xs)
  (B:Nat) (A:Option Addr) (m c:Nat) (news:List Value) (hx:a.eval x=.slice A m c) (hl:news.length=m*size) (hr:Row w B A news) (h1:∀ u ∈ news,u.oneCell'=true)
  (h63:n+m<=9223372036854775807) (hbytes:(n+m)*bytes<=140737488355328) (hbase:base<=w.heap.size)
  (hK:∀ A' c' w',w'.ownsRow base e size (.slice A' (n+m) c') (n+m) (xs ++ news)->w.grownBy w' v.ownBlock ->
   ((Value.slice A' (n+m) c').ownBlock=v.ownBlock\/(Value.slice A' (n+m) c').ownBlock=some w.heap.size)->n+m<=c'->K (a.put o.dst (.slice A' (n+m) c')) w') :
  if Region.wanted o (yielded ops a.tmps)=true then Oper.wp P o a w K Q else E:=by
 have hw:Region.wanted o (yielded ops a.tmps)=true:=by simp [Region.wanted,hg]
 rw [if_pos hw]
 obtain ⟨A',c',w',hrun,h2,h3,h4,h5⟩:=run_app (P:=P) w base t o.type e i z size bytes ht hi hz hsize hby hzs hsz v n xs hown B A m c news hl hr h1 h63 hbytes hbase
 unfold Oper.wp
 simp [execOp,hop,resolve,invoke,builtin,hs,hx,hrun,Result.andThen]
 exact hK _ _ _ h2 h3 h4 h5
structure BankAt (w:World) (g:Nat) (bs:List Nat) (size:Nat) (D:List MetaV):Prop where
 at_:∃ Ai ci Ad cd,w.heap[g]? = some (.cells #[.slice Ai bs.length ci,.int .i64 size,.slice Ad D.length cd] 159 (0,0))/\Row w w.heap.size Ai (u8s bs)/\Row w w.heap.size Ad (metaCells D)/\bs.length<=ci/\ci<=9223372036854775807/\D.length<=cd/\cd<=9223372036854775807/\(Ai=none->ci=0)/\(Ad=none->cd=0)
theorem BankAt.later {w w':World} {g:Nat} {bs:List Nat} {size:Nat} {D:List MetaV} (h:BankAt w g bs size D) (hb:Below w.heap.size w w'):BankAt w' g bs size D:=by
 obtain ⟨Ai,ci,Ad,cd,h1,h2,h3,h4,h5,h6,h7,h8,h9⟩:=h.at_
 exact ⟨Ai,ci,Ad,cd,hkeep h1 hb,h2.later hb,h3.later hb,h4,h5,h6,h7,h8,h9⟩
def ParsePost (w:World) (bs:List Nat) (e:Ending) (w':World):Prop :=
 (parseZ bs ≠ 0/\e=.returned (.tuple #[.pointer none,.int .i64 (parseZ bs)])/\Below w.heap.size w w') \/
 (parseZ bs=0/\∃ g,e=.returned (.tuple #[.pointer (some ⟨g,0,none⟩),.int .i64 0])/\w.heap.size<=g/\BankAt w' g bs (sizeZ bs) (dirZ bs (cntZ bs))/\Below w.heap.size w w')
end Go.Proofs.YtnbbfblaipjcmaaGreatDoor

/- PartsB. Conditions: as each theorem states. -/
import Derived.Laws.CopyRow
import Derived.Test.YtbpgfkjhclpbdaaGreatDoorPw14
namespace Go.Proofs.YtbpgfkjhclpbdaaGreatDoor
open Tryz
open Go.RowKit
section
variable {P : Program} {ops : Array Oper} {rest : List Oper} {o : Oper} {a : Act} {w : World} {Q : Exit → Act → World → Prop}
def aW{α:Type}(l:List α)(off:Nat)(xs:List α):List α:=l.take off++xs++l.drop (off+xs.length)
theorem dG{α:Type}{l:List α}{off:Nat}{xs:List α}(h:off+xs.length<=l.length):(aW l off xs).length=l.length:=by
 unfold aW;simp;omega
theorem mF{α:Type}{l:List α}{off:Nat}{xs:List α}(h:off+xs.length<=l.length)(i:Nat):(aW l off xs)[i]? = if off<=i/\i<off+xs.length then xs[i-off]? else l[i]?:=by
 unfold aW;rcases aGt i off with h1|h1
 ·rw[sL (by omega),aGU (by simp;omega),aGU (by simp;omega),aHe,FN h1]
 ·rcases aGt i (off+xs.length) with h2|h2
  ·rw[FN ⟨h1,h2⟩,aGU (by simp;omega),aGP (by simp;omega)]
   congr 1
   simp;omega
  ·rw[sL (by omega),aGP (by simp;omega),aHp]
   congr 1
   simp;omega
theorem kU{α β:Type}(f:α->β)(l:List α)(off:Nat)(xs:List α):(aW l off xs).map f=aW (l.map f) off (xs.map f):=by
 unfold aW;simp
theorem o9(w:World)(g off:Nat)(t ty:TypeId)(old:Array Value)(xs:List Value)(z:w.heap[g]? = some (.cells old t (0,0)))(hi:(P.info? ty).map (·.size)=some xs.length)
 (F:off+xs.length<=old.size)(h1:∀ v∈xs,v.oneCell'=true):
  (storeVar ty ⟨g,off,none⟩ (.agg xs.toArray)).run P w=.ok () (w.setRow g (aW old.toList off xs).toArray):=by
 have h:=run_storeCells_at P g off t xs 0 old w z (by simpa using F) h1;cases d:P.info? ty with
 | none=>simp[d]at hi
 | some i =>
  have G:xs.length=i.size:=by simp[d]at hi;omega
  rw[Nat.add_zero]at h;have:(storeVar ty ⟨g,off,none⟩ (.agg xs.toArray)).run P w=(storeCells ⟨g,off,none⟩ xs 0).run P w:=by
   simp[storeVar,sizeOf,typeInfo,d,Value.cells,G]
  rw[this,h]
  rfl
theorem cH(F:Region.wanted o (yielded ops a.tmps)=true)(ty:TypeId)(x y:Operand)(G:o.op=.store ty x y)
 (g off:Nat)(J:a.eval x=.pointer (some ⟨g,off,none⟩))(t:TypeId)(old xs:List Value)(O:a.eval y=.agg xs.toArray)(z:w.heap[g]? = some (.cells old.toArray t (0,0)))
 (hi:(P.info? ty).map (·.size)=some xs.length)(I:off+xs.length<=old.length)(h1:∀ v∈xs,v.oneCell'=true)
 (h:wpList P ops Q rest (a.put o.dst undef) (w.setRow g (aW old off xs).toArray)):wpList P ops Q (o::rest) a w :=
 mL F fun _ d=>by
  unfold Oper.wp execOp;simp only[G,J,O,Instr.storeAt,Instr.sureAddr,aHS,Sem.run_pure,Result.andThen_ok,o9 w g off t ty old.toArray xs z hi (by simpa using I) h1];exact d _ _ h
end
end Go.Proofs.YtbpgfkjhclpbdaaGreatDoor

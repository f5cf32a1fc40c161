/- PartsB. Conditions: as each theorem states. -/
import Derived.Laws.CopyRow
import Derived.Test.YtnbbfblaipjcmaaGreatDoorPv14
namespace Go.Proofs.YtnbbfblaipjcmaaGreatDoor
open Go.RowKit
section
variable {P : Program} {ops : Array Oper} {rest : List Oper} {o : Oper} {a : Act} {w : World} {Q : Exit → Act → World → Prop}
def aS {α:Type} (l:List α) (off:Nat) (xs:List α):List α:=l.take off ++ xs ++ l.drop (off+xs.length)
theorem cT {α:Type} {l:List α} {off:Nat} {xs:List α} (h:off+xs.length<=l.length):(aS l off xs).length=l.length:=by
 unfold aS
 simp
 omega
theorem lN {α:Type} {l:List α} {off:Nat} {xs:List α} (h:off+xs.length<=l.length) (i:Nat):(aS l off xs)[i]? = if off<=i/\i < off+xs.length then xs[i - off]? else l[i]?:=by
 unfold aS
 rcases Nat.lt_or_ge i off with h1 | h1
 ·rw [if_neg (by omega),List.getElem?_append_left (by simp; omega),List.getElem?_append_left (by simp; omega),List.getElem?_take,if_pos h1]
 ·rcases Nat.lt_or_ge i (off+xs.length) with h2 | h2
  ·rw [if_pos ⟨h1,h2⟩,List.getElem?_append_left (by simp; omega),List.getElem?_append_right (by simp; omega)]
   congr 1
   simp
   omega
  ·rw [if_neg (by omega),List.getElem?_append_right (by simp; omega),List.getElem?_drop]
   congr 1
   simp
   omega
theorem sY {α β:Type} (f:α->β) (l:List α) (off:Nat) (xs:List α):(aS l off xs).map f=aS (l.map f) off (xs.map f):=by
 unfold aS
 simp
theorem n9 (w:World) (g off:Nat) (t ty:TypeId) (old:Array Value) (xs:List Value) (hg:w.heap[g]? = some (.cells old t (0,0))) (hi:(P.info? ty).map (·.size)=some xs.length)
  (ho:off+xs.length<=old.size) (h1:∀ v ∈ xs,v.oneCell'=true) :
  (storeVar ty ⟨g,off,none⟩ (.agg xs.toArray)).run P w=.ok () (w.setRow g (aS old.toList off xs).toArray):=by
 have hst:=run_storeCells_at P g off t xs 0 old w hg (by simpa using ho) h1
 cases hq:P.info? ty with
 | none=>simp [hq] at hi
 | some i =>
  have hs:xs.length=i.size:=by simp [hq] at hi; omega
  rw [Nat.add_zero] at hst
  have:(storeVar ty ⟨g,off,none⟩ (.agg xs.toArray)).run P w=(storeCells ⟨g,off,none⟩ xs 0).run P w:=by
   simp [storeVar,sizeOf,typeInfo,hq,Value.cells,hs]
  rw [this,hst]
  rfl
theorem dQ (hgd:Region.wanted o (yielded ops a.tmps)=true) (ty:TypeId) (x y:Operand) (ho:o.op=.store ty x y)
  (g off:Nat) (hx:a.eval x=.pointer (some ⟨g,off,none⟩)) (t:TypeId) (old xs:List Value) (hy:a.eval y=.agg xs.toArray) (hg:w.heap[g]? = some (.cells old.toArray t (0,0)))
  (hi:(P.info? ty).map (·.size)=some xs.length) (hsz:off+xs.length<=old.length) (h1:∀ v ∈ xs,v.oneCell'=true)
  (h:wpList P ops Q rest (a.put o.dst undef) (w.setRow g (aS old off xs).toArray)):wpList P ops Q (o :: rest) a w :=
 lS hgd fun _ hK=>by
  unfold Oper.wp execOp
  simp only [ho,hx,hy,Instr.storeAt,Instr.sureAddr,Sem.run_bind,Sem.run_pure,Result.andThen_ok,n9 w g off t ty old.toArray xs hg hi (by simpa using hsz) h1]
  exact hK _ _ h
end
end Go.Proofs.YtnbbfblaipjcmaaGreatDoor

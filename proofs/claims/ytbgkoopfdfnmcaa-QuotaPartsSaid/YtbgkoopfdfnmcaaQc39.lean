/- WaveE. Conditions: as each theorem states. -/
import Derived.Test.YtbgkoopfdfnmcaaQc04
import Derived.Test.YtbgkoopfdfnmcaaQc36

namespace Go.Proofs.Ytbgkoopfdfnmcaa
open Go.RowKit

/-- A callee's contract with the caller's cells anew. -/
theorem keep_cell {w w' : World} (hb : Below w.heap.size w w') {p : Addr} {v : Value} (h : w.cell? p = some v) : w'.cell? p = some v := (hb.cell (cell_lt h)).trans h

set_option maxRecDepth 100000 in
set_option maxHeartbeats 2000000 in
theorem Meta_any (nm : ByteArray) (rate : Int) (lp : Bool) (f t : Int) (a : Option Addr) (cap : Nat) (vs : List Value) (rows : List (List Int)) (w : World) (R : Nat) (hR : rows.length = R) (hr : Row w w.heap.size a vs) (hm : RowsAt w w.heap.size vs rows) :
    Calls Try.prog 24 #[.agg #[.string nm, .int .i64 rate, .bool lp, .int .i64 f, .int .i64 t, .slice a R cap]] w
      fun e w' => e = .returned (.agg #[.string nm, .int .i64 (len0 rows), .int .i64 rate, .int .i64 R, .bool lp, .int .i64 f, .int .i64 t, .int .i64 0, .int .i64 0]) ∧ Below w.heap.size w w' := by
  have HR := Lib.hid hR
  have Hr := Lib.hid hr
  have Hm := Lib.hid hm
  clear hR hr hm
  go_enter Try.func24, Try.ntmps24
  go_wp2
  have hb1 := (Blk.new w 51 [.string nm, .int .i64 rate, .bool lp, .int .i64 f, .int .i64 t, .slice a R cap]).alloc (.cells #[.string ⟨#[]⟩, .int .i64 0, .int .i64 0, .int .i64 0, .bool false, .int .i64 0, .int .i64 0, .int .i64 0, .int .i64 0] 63)
  have hb2 := Blk.new2 w (.cells #[.string nm, .int .i64 rate, .bool lp, .int .i64 f, .int .i64 t, .slice a R cap] 51) 63 [.string ⟨#[]⟩, .int .i64 0, .int .i64 0, .int .i64 0, .bool false, .int .i64 0, .int .i64 0, .int .i64 0, .int .i64 0]
  have hW : Below w.heap.size w ((w.alloc (.cells #[.string nm, .int .i64 rate, .bool lp, .int .i64 f, .int .i64 t, .slice a R cap] 51)).alloc (.cells #[.string ⟨#[]⟩, .int .i64 0, .int .i64 0, .int .i64 0, .bool false, .int .i64 0, .int .i64 0, .int .i64 0, .int .i64 0] 63)) := (bnew _ _).alloc (by simp) _
  have hx := gw_blk hb1
  refine wp_region_calm_tail 16 (by kernel_rfl) (by kernel_rfl) ?_
  simp only [List.take_succ_cons, List.take_zero, List.drop_succ_cons, List.drop_zero]
  repeat (go_big_quiet_step (first | (go_at_call 19; rename_i x; exact calm_call (Length_any _ _ _ _ _ _ _ vs rows _ R HR.out (Hr.out.later (bnext hW x.2)) (Hm.out.later (bnext hW x.2))))))
  refine wpQuiet_nil ?_
  intro w5 hw'
  have hb5 := gw_below hw'
  clear hw'
  have hb5' := Lib.hid (bnext hW hb5)
  have hz : w.heap.size + 1 < w5.heap.size := by have := hb5.size; simp at this; omega
  have ce := blk_cells (hb2.below hb5 (by simp))
  have fz := blk_free (hb2.below hb5 (by simp))
  clear hx hb1 hb2 hW hb5
  go_wp2
  refine bodyPost_ret (v := .agg #[.string nm, .int .i64 (len0 rows), .int .i64 rate, .int .i64 R, .bool lp, .int .i64 f, .int .i64 t, .int .i64 0, .int .i64 0]) (by simp [results, Try.results24, go_sem, ce]) rfl ?_
  refine ⟨rfl, ?_⟩
  repeat (refine Below.setCell ?_ (by simp) _)
  exact hb5'.out
end Go.Proofs.Ytbgkoopfdfnmcaa

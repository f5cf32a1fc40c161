/- LawGains. Conditions: as each theorem states. -/
import Derived.Test.YthmgjielcmjenaaMc50

namespace Go.Proofs.Ythmgjielcmjenaa
open Go.RowKit

theorem gains_row (l : List Int) (size : Int) {m : Nat} (hm : m < countN l.length) : rowAt 4 (gainsF l size) m = if 55 ≤ size then zero4 else gainsOf l m := by
  split
  · rename_i h; exact gains_flat l h hm
  · rename_i h
    have hf : ∀ i, (gainsOf l i).length = 4 := fun i => ofTo_len _ 4
    unfold gainsF
    rw [if_neg h]
    exact rowsTo_row hf hm
theorem take_row (g : List Int) (m : Nat) : (g.take ((m + 1) * 4)).map (Value.int .i64) = (g.take (m * 4)).map (Value.int .i64) ++ (rowAt 4 g m).map (.int .i64) := by
  rw [← List.map_append, show (m + 1) * 4 = m * 4 + 4 by omega, List.take_add]; rfl

set_option maxRecDepth 100000 in
set_option maxHeartbeats 8000000 in
theorem lawgains13_any (l : List Int) (size : Int) (A : Option Addr) (cap c : Nat) (w : World) (hc : countN l.length = c) (hl : l.length ≤ 1000000) (hr : Row w w.heap.size A (l.map (.int .i64))) (ht : TurnB l) :
    Calls Try.prog 35 #[.slice A l.length cap, .int .i64 size] w (RowPost w c (gainsF l size)) := by
  have HBl := Lib.hid (show Calls Try.prog 69 #[.slice A l.length cap] w (NewBlocks w c (padZ l)) from hc ▸ Blocks_any l A cap w (by omega) hr)
  have HOf := Lib.hid (fun i W (hi : i < c) => (show Calls Try.prog 70 #[blockV (blockAt (padZ l) i)] W fun e w' => e = .returned (blockV (gainsOf l i)) ∧ Below W.heap.size W w' from Of_any (blockAt (padZ l) i) W (blockAt_len (padZ_len l) (by rw [hc]; exact hi)) (padZ_turn ht i)))
  have HBk := Lib.hid (fun i (hi : i < c) => blockAt_len (padZ_len l) (by rw [hc]; exact hi : i < countN l.length))
  have HOl := Lib.hid (fun i => (show (gainsOf l i).length = 4 from ofTo_len _ 4))
  have HRw := Lib.hid (fun m (hm : m < c) => gains_row l size (by rw [hc]; exact hm : m < countN l.length))
  have hgl : (gainsF l size).length = c * 4 := by rw [← hc]; exact (gainsF_ok l size).1
  have Hgl := Lib.hid hgl
  have hcc : c ≤ 1000000 := by rw [← hc]; unfold countN; omega
  obtain ⟨i4, hi4, hz4, hz5, hz6⟩ : ∃ i, Try.prog.info? 91 = some i ∧ i.zero = some (.agg (List.replicate 4 (Value.int .i64 0)).toArray) ∧ i.size = 4 ∧ i.bytes = 32 := by
    have := inf_4
    cases h : Try.prog.info? 91 with
    | none => rw [h] at this; cases this
    | some i =>
      rw [h] at this
      simp only [Option.map_some, Option.some.injEq, Prod.mk.injEq] at this
      exact ⟨i, rfl, this.1, this.2.1, this.2.2⟩
  generalize l.length = n at *
  generalize gainsF l size = G at *
  clear hr ht hgl hc
  have tsz : (55 ≤ size ∧ decide (55 ≤ size) = true) ∨ (¬ 55 ≤ size ∧ decide (55 ≤ size) = false) := by
    by_cases h : 55 ≤ size
    · exact .inl ⟨h, decide_eq_true h⟩
    · exact .inr ⟨h, decide_eq_false h⟩
  go_enter Try.func35, Try.ntmps35
  go_wp2_with (go_at_call 69; fail)
  refine HBl.out.mono ?_
  rintro e w1 ⟨gb, rfl, hgb, hbb, hb1⟩
  have P1 := Lib.hid hbb
  have E1 := Lib.hid hb1
  clear hbb hb1 hgb HBl
  go_wp2_with fail
  go_loopw [5, 7] (fun o i wr => ∃ (m : Nat) (A' : Option Addr) (cc : Nat), m ≤ c ∧ i = .int .i64 m ∧ o = .slice A' m cc ∧ wr.ownsRow w1.heap.size 91 4 (.slice A' m cc) m ((G.take (m * 4)).map (.int .i64)) ∧ Below w1.heap.size w1 wr) (fun _ i _ => c - (intOf i).toNat)
  case atStart => exact ⟨0, none, 0, by omega, rfl, rfl, by rw [Nat.zero_mul, List.take_zero]; exact World.ownsRow_nil _ _ _ _, Below.refl _ _⟩
  case round =>
    obtain ⟨m, A', cc, hm, rfl, rfl, hown, hbel⟩ := hrel
    have Hown := Lib.hid hown
    have Hbel := Lib.hid hbel
    have Hge := Lib.hid (own_block_ge hown)
    clear hown hbel
    by_cases hlk : m < c
    · have t1 : (m : Int) < (c : Int) := by omega
      have t2 : (0 : Int) ≤ (m : Int) := by omega
      have PX := Lib.hid (blk_cut (P1.out.below Hbel.out P1.out.lt) (m * 16) 16)
      rw [show (((padZ l).drop (m * 16)).take 16) = blockAt (padZ l) m from rfl] at PX
      have HO := Lib.hid (fun W => HOf.out m W hlk)
      have HR := Lib.hid (HRw.out m hlk)
      have HT := Lib.hid (take_row G m)
      have hxl : ((blockAt (padZ l) m).map (Value.int .i64)).length = 16 := by rw [List.length_map, HBk.out m hlk]
      have hol := HOl.out m
      unfold blockV at HO
      generalize (blockAt (padZ l) m).map (Value.int .i64) = xs at *
      have HFx := Lib.hid (show (Try.prog.info? 94).map (·.size) = some xs.length by rw [hxl]; exact inf_block)
      have hzl : ((gainsOf l m).map (Value.int .i64)).toArray.size = 4 := by simp [hol]
      have Hz1 := Lib.hid (ints_one (gainsOf l m))
      obtain ⟨zv, hzv⟩ : ∃ zv, ((gainsOf l m).map (Value.int .i64)).toArray = zv := ⟨_, rfl⟩
      have Hzv := Lib.hid hzv
      rw [hzv] at HO hzl Hz1
      have HFz := Lib.hid (show (Try.prog.info? 91).map (·.size) = some zv.size by rw [hzl]; exact inf_four)
      have Hzl := Lib.hid hzl
      have HF0 := Lib.hid (show (Try.prog.info? 91).map (·.size) = some (#[Value.int .i64 0, Value.int .i64 0, Value.int .i64 0, Value.int .i64 0] : Array Value).size from inf_four)
      have HOne := Lib.hid (ints_each (rowAt 4 G m))
      have HRl := Lib.hid (show ((rowAt 4 G m).map (Value.int .i64)).length = 4 by rw [List.length_map]; exact rowAt_len Hgl.out hlk)
      clear hxl hzl hol hzv
      go_wp2_with (first | (go_at_call 70; fail) | (refine wpList_load_part_w rfl 94 (.tmp 19) rfl gb (m * 16) rfl xs _ PX.out Try.underlying94 rfl HFx.out ?_))
      refine (HO.out _).mono ?_
      rintro e w3 ⟨rfl, hb3⟩
      have Hown3 := Lib.hid (own_below Hown.out hb3)
      have E3 := Lib.hid (bnext Hbel.out hb3)
      have hz3 := E3.out.size
      clear hb3 HO
      rcases tsz with ⟨ht1, ht2⟩ | ⟨ht1, ht2⟩
      · have HRf := Lib.hid (show (rowAt 4 G m).map (Value.int .i64) = [.int .i64 0, .int .i64 0, .int .i64 0, .int .i64 0] by rw [HR.out, if_pos (by omega)]; rfl)
        have HN1 := Lib.hid (heap_alloc_new w3 (.cells zv 91))
        have HN2 := Lib.hid (heap_alloc_new w3 (.cells #[Value.int .i64 0, Value.int .i64 0, Value.int .i64 0, Value.int .i64 0] 91))
        rw [HRf.out] at HT HOne
        go_wp2_with (first | (refine wpList_store_row_w rfl 91 (.tmp 8) (.tmp 21) rfl w3.heap.size rfl _ _ zv rfl (heap_alloc_new w3 _) HFz.out (by rw [Hzl.out]; rfl) Hz1.out ?_; rw [World.setRow_alloc_new]) | (refine wpList_store_row_w rfl 91 (.tmp 8) (.tmp 24) rfl w3.heap.size rfl _ _ #[Value.int .i64 0, Value.int .i64 0, Value.int .i64 0, Value.int .i64 0] rfl HN1.out HF0.out (by rw [Hzl.out]; rfl) (ints_one [0, 0, 0, 0]) ?_; rw [World.setRow_alloc_new]) | (refine wpList_load_row_w rfl 91 (.tmp 8) rfl w3.heap.size rfl _ #[Value.int .i64 0, Value.int .i64 0, Value.int .i64 0, Value.int .i64 0] _ _ HN2.out Try.underlying91 rfl HF0.out ?_) | (refine wpList_build_one rfl 73 91 (.tmp 26) rfl i4 _ 4 Try.underlying73 hi4 hz4 hz5 (by omega) (by omega) #[Value.int .i64 0, Value.int .i64 0, Value.int .i64 0, Value.int .i64 0] rfl rfl ?_) | (at_builtin; refine wpList_app _ rfl (.tmp 25) (.tmp 27) 73 rfl w1.heap.size 91 i4 _ 4 32 Try.underlying73 hi4 hz4 hz5 hz6 rfl (by omega) _ m _ rfl ((Hown3.out.alloc _).alloc _) ((w3.alloc (.cells #[Value.int .i64 0, Value.int .i64 0, Value.int .i64 0, Value.int .i64 0] 91)).heap.size + 1) (some ⟨(w3.alloc (.cells #[Value.int .i64 0, Value.int .i64 0, Value.int .i64 0, Value.int .i64 0] 91)).heap.size, 0, none⟩) 1 1 [.int .i64 0, .int .i64 0, .int .i64 0, .int .i64 0] rfl rfl (Row.new (w3.alloc (.cells #[Value.int .i64 0, Value.int .i64 0, Value.int .i64 0, Value.int .i64 0] 91)) _ [.int .i64 0, .int .i64 0, .int .i64 0, .int .i64 0]) HOne.out (by omega) (by omega) (by simp; omega) ?_; intro A2 c2 w7 hown7 hgrow hat hcc7))
        go_roundw
        case rel =>
          have hb7 : Below w1.heap.size w1 w7 := ((E3.out.alloc (by omega) _).alloc (by simp; omega) _).grown hgrow (by simp; omega) (fun g h => Hge.out g h)
          exact ⟨m + 1, A2, c2, by omega, by go_num, rfl, by rw [HT.out]; exact hown7, hb7⟩
        case measure => simp [intOf]; omega
      · have HRf := Lib.hid (show (rowAt 4 G m).map (Value.int .i64) = zv.toList by rw [HR.out, if_neg (by omega), ← Hzv.out])
        have HN1 := Lib.hid (heap_alloc_new w3 (.cells zv 91))
        rw [HRf.out] at HT HOne HRl
        go_wp2_with (first | (refine wpList_store_row_w rfl 91 (.tmp 8) (.tmp 21) rfl w3.heap.size rfl _ _ zv rfl (heap_alloc_new w3 _) HFz.out (by rw [Hzl.out]; rfl) Hz1.out ?_; rw [World.setRow_alloc_new]) | (refine wpList_load_row_w rfl 91 (.tmp 8) rfl w3.heap.size rfl _ zv _ _ HN1.out Try.underlying91 rfl HFz.out ?_) | (refine wpList_build_one rfl 73 91 (.tmp 26) rfl i4 _ 4 Try.underlying73 hi4 hz4 hz5 (by omega) (by omega) zv rfl Hzl.out ?_) | (at_builtin; refine wpList_app _ rfl (.tmp 25) (.tmp 27) 73 rfl w1.heap.size 91 i4 _ 4 32 Try.underlying73 hi4 hz4 hz5 hz6 rfl (by omega) _ m _ rfl ((Hown3.out.alloc _).alloc _) ((w3.alloc (.cells zv 91)).heap.size + 1) (some ⟨(w3.alloc (.cells zv 91)).heap.size, 0, none⟩) 1 1 zv.toList rfl (by rw [HRl.out]) (Row.new (w3.alloc (.cells zv 91)) _ zv.toList) HOne.out (by omega) (by omega) (by simp; omega) ?_; intro A2 c2 w7 hown7 hgrow hat hcc7))
        go_roundw
        case rel =>
          have hb7 : Below w1.heap.size w1 w7 := ((E3.out.alloc (by omega) _).alloc (by simp; omega) _).grown hgrow (by simp; omega) (fun g h => Hge.out g h)
          exact ⟨m + 1, A2, c2, by omega, by go_num, rfl, by rw [HT.out]; exact hown7, hb7⟩
        case measure => simp [intOf]; omega
    · have hmc : m = c := by omega
      have t1 : ¬ ((m : Int) < (c : Int)) := by omega
      subst hmc
      go_wp2
      go_ret
      refine ⟨A', cc, rfl, own_len Hown.out, ?_, bnext E1.out Hbel.out⟩
      have := Row.of_own Hown.out
      rw [List.take_of_length_le (by rw [Hgl.out]; exact Nat.le_refl _)] at this
      exact this
end Go.Proofs.Ythmgjielcmjenaa

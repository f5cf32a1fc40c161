/- NetC. Conditions: as each theorem states. -/
import Derived.Test.YthmgjielcmjenaaMc13
import Derived.Test.YthmgjielcmjenaaMc38

namespace Go.Proofs.Ythmgjielcmjenaa
open Go.RowKit Go.Shelf
attribute [local go_sem] Oper.semAt_some

theorem pairs_any (tv : Array Value) (r : Nat) (w : World) : Calls Try.prog 116 #[.agg tv, .int .i64 r] w fun e w' =>
    ∃ Br Bn, e = .returned (.func (.func 146) #[] #[.pointer (some ⟨Br, 0, none⟩), .pointer (some ⟨Bn, 0, none⟩)]) ∧ w.heap.size ≤ Br ∧ w.heap.size ≤ Bn ∧
      w'.heap[Br]? = some (.cells #[.int .i64 r] 3 (0, 0)) ∧ w'.heap[Bn]? = some (.cells tv 86 (0, 0)) ∧ Below w.heap.size w w' := by
  have H := Lib.hid (heap2 w (.cells tv 86) (.cells #[.int .i64 r] 3))
  go_enter Try.func116, Try.ntmps116
  go_wp2
  go_ret
  exact ⟨w.heap.size + 1, w.heap.size, rfl, by omega, Nat.le_refl _, H.out.2.1, H.out.1, H.out.2.2.2⟩
theorem pairs_stops (r Br Bn : Nat) (tv : Array Value) (w0 : World) (hr : r < 4) (ht : TurnsV tv) (hBr : w0.heap[Br]? = some (.cells #[.int .i64 r] 3 (0, 0))) (hBn : w0.heap[Bn]? = some (.cells tv 86 (0, 0))) :
    SeqStopsK Fence.wide 3 Try.prog 146 #[.pointer (some ⟨Br, 0, none⟩), .pointer (some ⟨Bn, 0, none⟩)] (encP r) (Kp2 Br Bn) (fun xs => xs = leadL r 16) (fun _ => True) 8 w0 := fun l J Jx W hW _ _ hY h0 =>
  pairs1_in l r Br Bn tv hr ht J Jx hY W (hkeep hBr hW) (hkeep hBn hW) h0

/-- a pair turned -/
def stepN (r : Nat) (b : List Int) (x : PI r) : List Int := (b.set x.1 (turnA (bgt b x.1) (bgt b (x.1 + 2 ^ r)) (turnOf x.1 r))).set (x.1 + 2 ^ r) (turnB (bgt b x.1) (bgt b (x.1 + 2 ^ r)) (turnOf x.1 r))
def stN (r : Nat) (b : List Int) : List Int := (leadL r 16).foldl (stepN r) b
theorem stepN_len (r : Nat) (b : List Int) (x : PI r) : (stepN r b x).length = b.length := by simp [stepN]
theorem foldN_len (r : Nat) : ∀ (l : List (PI r)) (b : List Int), (l.foldl (stepN r) b).length = b.length
  | [], _ => rfl
  | x :: l, b => by rw [List.foldl_cons, foldN_len r l, stepN_len]
theorem lead_mate {r : Nat} (hr : r < 4) (x : PI r) : x.1 + 2 ^ r < 16 := (or_pairF ⟨r, hr⟩ ⟨x.1, x.2.1⟩ x.2.2).2
theorem stepN_lim {M : Int} {r : Nat} {b : List Int} (hr : r < 4) (hb : b.length = 16) (h : Within M b) (x : PI r) : Within (2 * M + 4) (stepN r b x) := by
  have h1 := h x.1 x.2.1
  have hm := lead_mate hr x
  have h2 := h (x.1 + 2 ^ r) hm
  have hT := turn_bd ((3 * x.1 + 5 * r) % 8) (Nat.mod_lt _ (by decide)) _ _ M h1.1 h1.2 h2.1 h2.2
  intro k hk
  have hk0 := h k hk
  unfold stepN turnOf
  rw [bgt_set _ _ _ _ (by rw [List.length_set, hb]; exact hm), bgt_set _ _ _ _ (by rw [hb]; exact x.2.1)]
  split
  · omega
  · split <;> omega
def limN (M : Int) : Nat → Int
  | 0 => M
  | n + 1 => 2 * limN M n + 4
theorem limN_succ (M : Int) : ∀ n, limN (2 * M + 4) n = limN M (n + 1)
  | 0 => rfl
  | n + 1 => by rw [limN, limN_succ M n]; rfl
theorem foldN_lim {r : Nat} (hr : r < 4) : ∀ (l : List (PI r)) (b : List Int) (M : Int), b.length = 16 → Within M b → Within (limN M l.length) (l.foldl (stepN r) b)
  | [], _, _, _, h => h
  | x :: l, b, M, hb, h => by
    rw [List.foldl_cons, List.length_cons, ← limN_succ]
    exact foldN_lim hr l _ _ (by rw [stepN_len, hb]) (stepN_lim hr hb h x)
theorem limN_le {M : Int} (hM : 0 ≤ M ∧ M ≤ 8000000000) {n : Nat} (hn : n < 8) : limN M n ≤ 1099511627776 := by
  have hn8 : n = 0 ∨ n = 1 ∨ n = 2 ∨ n = 3 ∨ n = 4 ∨ n = 5 ∨ n = 6 ∨ n = 7 := by omega
  rcases hn8 with rfl | rfl | rfl | rfl | rfl | rfl | rfl | rfl <;> simp only [limN] <;> omega
theorem Within.turnable {M : Int} {b : List Int} (h : Within M b) (hM : M ≤ 1099511627776) {k : Nat} (hk : k < 16) : Turnable (bgt b k) := by
  have := h k hk
  unfold Turnable
  omega
/-- but for one block the world is as it was -/
theorem ownFrom_only {β : Type} {W2 : World} {g : Nat} {t : TypeId} (f : β → List Value) (hg : g < W2.heap.size) : OwnFrom W2.heap.size (fun s W => W2.grownBy W (some g) ∧ Blk W g t (f s)) := by
  intro s X Y row ⟨h1, h2⟩ hgr hr
  have hne : ∀ k, k < W2.heap.size → some k ≠ row := fun k hk e => by
    have := (hr k e.symm).1
    omega
  refine ⟨⟨hgr.os.trans h1.os, hgr.tape.trans h1.tape, hgr.output.trans h1.output, Nat.le_trans h1.size hgr.size, fun k hk hkg => ?_⟩, ?_⟩
  · exact (hgr.block k (Nat.lt_of_lt_of_le hk h1.size) (hne k hk)).trans (h1.block k hk hkg)
  · exact h2.grown hgr (hne g hg)
theorem ownFrom_box {β : Type} {B N : Nat} {t : TypeId} {cs : Array Value} (A : Nat → Prop) : OwnFrom B (fun (_ : β) X => ∃ Bx, N ≤ Bx ∧ X.heap[Bx]? = some (.cells cs t (0, 0)) ∧ A Bx) := by
  intro s X Y row ⟨Bx, h1, h2, h3⟩ hg hr
  refine ⟨Bx, h1, (hg.block Bx (hlt h2) (fun e => ?_)).trans h2, h3⟩
  obtain ⟨_, o, ho, hc⟩ := hr Bx e.symm
  rw [h2] at ho
  injection ho with ho
  subst ho
  cases hc
theorem set_step {r : Nat} {b : List Int} (x : PI r) {y z : Int} {t : TurnV} {g : Nat} {ty : TypeId} {W : World} (hy : bgt b x.1 = y) (hz : bgt b (x.1 + 2 ^ r) = z) (ht : turnOf x.1 r = t) (h : Blk W g ty (b.map (.int .i64))) :
    Blk ((W.setCell ⟨g, x.1, none⟩ (.int .i64 (turnA y z t))).setCell ⟨g, x.1 + 2 ^ r, none⟩ (.int .i64 (turnB y z t))) g ty ((stepN r b x).map (.int .i64)) := by
  subst hy hz ht
  unfold stepN
  rw [List.map_set, List.map_set]
  exact (h.set_ _ _).set_ _ _
theorem mate_ne (r : Nat) (x : PI r) : x.1 ≠ x.1 + 2 ^ r := by have := Nat.two_pow_pos r; omega
theorem stepN_bgt {r : Nat} {b : List Int} (hr : r < 4) (hb : b.length = 16) (x : PI r) (j : Nat) : bgt (stepN r b x) j =
    if x.1 + 2 ^ r = j then turnB (bgt b x.1) (bgt b (x.1 + 2 ^ r)) (turnOf x.1 r) else if x.1 = j then turnA (bgt b x.1) (bgt b (x.1 + 2 ^ r)) (turnOf x.1 r) else bgt b j := by
  have hm := lead_mate hr x
  unfold stepN
  rw [bgt_set _ _ _ _ (by rw [List.length_set, hb]; exact hm), bgt_set _ _ _ _ (by rw [hb]; exact x.2.1)]
theorem netTo_none {b : List Int} (r : Nat) (hb : b.length = 16) : netTo b r 0 = b :=
  bgt_ext (netTo_len _ _ _) hb fun j hj => by rw [netTo_bgt _ _ _ hj, if_neg (by omega)]
theorem leadF : ∀ (r : Fin 4) (j : Fin 16), lead r.1 j.1 / 2 ^ r.1 % 2 = 0 ∧ (j.1 / 2 ^ r.1 % 2 = 0 → lead r.1 j.1 = j.1) ∧ (¬ j.1 / 2 ^ r.1 % 2 = 0 → lead r.1 j.1 + 2 ^ r.1 = j.1 ∧ j.1 - 2 ^ r.1 = lead r.1 j.1) := by decide +kernel
theorem fold_net {r : Nat} {b : List Int} (hr : r < 4) (hb : b.length = 16) : ∀ k, k ≤ 16 → (leadL r k).foldl (stepN r) b = netTo b r k
  | 0, _ => (netTo_none r hb).symm
  | k + 1, hk => by
    have ih := fold_net hr hb k (by omega)
    by_cases h : k < 16 ∧ k / 2 ^ r % 2 = 0
    · rw [leadL_yes h, List.foldl_append, ih]
      refine bgt_ext (n := 16) (by rw [List.foldl_cons, List.foldl_nil, stepN_len, netTo_len]) (netTo_len _ _ _) fun j hj => ?_
      have hm := lead_mate hr ⟨k, h⟩
      obtain ⟨e1, e2, e3⟩ := leadF ⟨r, hr⟩ ⟨j, hj⟩
      obtain ⟨f1, f2, f3⟩ := leadF ⟨r, hr⟩ ⟨k, h.1⟩
      have hp := Nat.two_pow_pos r
      simp only at e1 e2 e3 f2 hm
      have fk := f2 h.2
      have hmk := or_pairF ⟨r, hr⟩ ⟨k, h.1⟩ h.2
      rw [List.foldl_cons, List.foldl_nil, stepN_bgt hr (netTo_len _ _ _)]
      show (if k + 2 ^ r = j then _ else if k = j then _ else _) = _
      have b1 : bgt (netTo b r k) k = bgt b k := by rw [netTo_bgt _ _ _ h.1, if_neg (by omega)]
      have b2 : bgt (netTo b r k) (k + 2 ^ r) = bgt b (k + 2 ^ r) := by
        rw [netTo_bgt _ _ _ hm, if_neg]
        have := (mate r hr k h.1).2.1 h.2
        omega
      show (if k + 2 ^ r = j then turnB (bgt (netTo b r k) k) (bgt (netTo b r k) (k + 2 ^ r)) (turnOf k r) else if k = j then turnA (bgt (netTo b r k) k) (bgt (netTo b r k) (k + 2 ^ r)) (turnOf k r) else bgt (netTo b r k) j) = _
      rw [b1, b2]
      by_cases h1 : k + 2 ^ r = j
      · subst h1
        have hmt := (mate r hr k h.1).2.1 h.2
        rw [if_pos rfl, netTo_bgt _ _ _ hj, if_pos (by omega), if_neg (by omega), hmt.2.2.2.2]
      · rw [if_neg h1]
        by_cases h2 : k = j
        · subst h2
          rw [if_pos rfl, netTo_bgt _ _ _ hj, if_pos (by omega), if_pos h.2]
        · rw [if_neg h2, netTo_bgt _ _ _ hj, netTo_bgt _ _ _ hj]
          by_cases hl : lead r j < k
          · rw [if_pos hl, if_pos (show lead r j < k + 1 by omega)]
          · have : lead r j ≠ k := by
              intro e
              by_cases hj0 : j / 2 ^ r % 2 = 0
              · have := e2 hj0; omega
              · have := e3 hj0; omega
            rw [if_neg hl, if_neg (show ¬ lead r j < k + 1 by omega)]
    · rw [leadL_no h, ih]
      refine bgt_ext (n := 16) (netTo_len _ _ _) (netTo_len _ _ _) fun j hj => ?_
      obtain ⟨e1, _⟩ := leadF ⟨r, hr⟩ ⟨j, hj⟩
      simp only at e1
      have : lead r j ≠ k := by
        intro e
        rw [e] at e1
        exact h ⟨by omega, e1⟩
      rw [netTo_bgt _ _ _ hj, netTo_bgt _ _ _ hj]
      by_cases hl : lead r j < k
      · rw [if_pos hl, if_pos (show lead r j < k + 1 by omega)]
      · rw [if_neg hl, if_neg (show ¬ lead r j < k + 1 by omega)]
theorem stN_eq {r : Nat} {b : List Int} (hr : r < 4) (hb : b.length = 16) : stN r b = netR b r := fold_net hr hb 16 (by decide)
theorem stN_len {r : Nat} {b : List Int} (hr : r < 4) (hb : b.length = 16) : (stN r b).length = 16 := by rw [stN_eq hr hb, netR_len]
theorem stN_half {M N : Int} {b : List Int} (hb : b.length = 16) (h : Within M b) (hN : 3 * M + 8 ≤ 2 * N) {r : Nat} (hr : r < 4) : Within N (stN r b) := by rw [stN_eq hr hb]; exact netR_half h hN hr
theorem st_fwd {b : List Int} (hb : b.length = 16) : stN 3 (stN 2 (stN 1 (stN 0 b))) = fwdZ b := by
  rw [stN_eq (r := 0) (by decide) hb, stN_eq (r := 1) (by decide) (netR_len _ _), stN_eq (r := 2) (by decide) (netR_len _ _), stN_eq (r := 3) (by decide) (netR_len _ _)]
  rfl
theorem put_below {B : Nat} {w0 W : World} (h : Below B w0 W) {D : Nat} (hD : B ≤ D) (o : Obj) : Below B w0 (W.putObj D o) :=
  h.trans ⟨rfl, rfl, rfl, by simp, fun k hk => World.putObj_heap_other (by omega)⟩
/-- a function leaves with four marks of ranges over functions -/
theorem leaves_four {F : Fence} {n : Nat} {P : Program} {fn : Func} {tmps : Array Value} {R : Ending → World → Prop} {U : World} {D3 D2 D1 D0 : Nat} (h3 : U.heap[D3]? = some (.deferred (some []))) (h2 : U.heap[D2]? = some (.deferred (some []))) (h1 : U.heap[D1]? = some (.deferred (some []))) (h0 : U.heap[D0]? = some (.deferred (some [])))
    (l1 : D0 < D1) (l2 : D1 < D2) (l3 : D2 < D3)
    (h : LeavesIn F n P fn tmps R [] .returning ((((U.putObj D3 (.deferred none)).putObj D2 (.deferred none)).putObj D1 (.deferred none)).putObj D0 (.deferred none))) :
    LeavesInM F n P fn tmps R [{ target := .collected D3, args := #[] }, { target := .collected D2, args := #[] }, { target := .collected D1, args := #[] }, { target := .collected D0, args := #[] }] .returning U := by
  refine ⟨by simp, .inl ⟨_, _, rfl, run_takeDeferred h3, ?_⟩⟩
  refine ⟨by simp, .inl ⟨_, _, rfl, run_takeDeferred ((World.putObj_heap_other (by omega)).trans h2), ?_⟩⟩
  refine ⟨by simp, .inl ⟨_, _, rfl, run_takeDeferred ((World.putObj_heap_other (by omega)).trans ((World.putObj_heap_other (by omega)).trans h1)), ?_⟩⟩
  refine ⟨by simp, .inl ⟨_, _, rfl, run_takeDeferred ((World.putObj_heap_other (by omega)).trans ((World.putObj_heap_other (by omega)).trans ((World.putObj_heap_other (by omega)).trans h0))), ?_⟩⟩
  exact h

/-! The way back. -/
def stepU (r : Nat) (b : List Int) (x : PI r) : List Int := (b.set x.1 (unA (bgt b x.1) (bgt b (x.1 + 2 ^ r)) (turnOf x.1 r))).set (x.1 + 2 ^ r) (unB (bgt b x.1) (bgt b (x.1 + 2 ^ r)) (turnOf x.1 r))
def stU (r : Nat) (b : List Int) : List Int := (leadL r 16).foldl (stepU r) b
theorem stepU_len (r : Nat) (b : List Int) (x : PI r) : (stepU r b x).length = b.length := by simp [stepU]
theorem foldU_len (r : Nat) : ∀ (l : List (PI r)) (b : List Int), (l.foldl (stepU r) b).length = b.length
  | [], _ => rfl
  | x :: l, b => by rw [List.foldl_cons, foldU_len r l, stepU_len]
theorem stepU_bgt {r : Nat} {b : List Int} (hr : r < 4) (hb : b.length = 16) (x : PI r) (j : Nat) : bgt (stepU r b x) j =
    if x.1 + 2 ^ r = j then unB (bgt b x.1) (bgt b (x.1 + 2 ^ r)) (turnOf x.1 r) else if x.1 = j then unA (bgt b x.1) (bgt b (x.1 + 2 ^ r)) (turnOf x.1 r) else bgt b j := by
  have hm := lead_mate hr x
  unfold stepU
  rw [bgt_set _ _ _ _ (by rw [List.length_set, hb]; exact hm), bgt_set _ _ _ _ (by rw [hb]; exact x.2.1)]
theorem stepU_lim {M : Int} {r : Nat} {b : List Int} (hr : r < 4) (hb : b.length = 16) (h : Within M b) (x : PI r) : Within (2 * M + 4) (stepU r b x) := by
  have h1 := h x.1 x.2.1
  have hm := lead_mate hr x
  have h2 := h (x.1 + 2 ^ r) hm
  have hT := back_bd ((3 * x.1 + 5 * r) % 8) (Nat.mod_lt _ (by decide)) _ _ M h1.1 h1.2 h2.1 h2.2
  intro k hk
  have hk0 := h k hk
  rw [stepU_bgt hr hb]
  unfold turnOf
  split
  · omega
  · split <;> omega
theorem foldU_lim {r : Nat} (hr : r < 4) : ∀ (l : List (PI r)) (b : List Int) (M : Int), b.length = 16 → Within M b → Within (limN M l.length) (l.foldl (stepU r) b)
  | [], _, _, _, h => h
  | x :: l, b, M, hb, h => by
    rw [List.foldl_cons, List.length_cons, ← limN_succ]
    exact foldU_lim hr l _ _ (by rw [stepU_len, hb]) (stepU_lim hr hb h x)
theorem setU_step {r : Nat} {b : List Int} (x : PI r) {y z : Int} {t : TurnV} {g : Nat} {ty : TypeId} {W : World} (hy : bgt b x.1 = y) (hz : bgt b (x.1 + 2 ^ r) = z) (ht : turnOf x.1 r = t) (h : Blk W g ty (b.map (.int .i64))) :
    Blk ((W.setCell ⟨g, x.1, none⟩ (.int .i64 (unA y z t))).setCell ⟨g, x.1 + 2 ^ r, none⟩ (.int .i64 (unB y z t))) g ty ((stepU r b x).map (.int .i64)) := by
  subst hy hz ht
  unfold stepU
  rw [List.map_set, List.map_set]
  exact (h.set_ _ _).set_ _ _
theorem bckTo_none {b : List Int} (r : Nat) (hb : b.length = 16) : bckTo b r 0 = b :=
  bgt_ext (bckTo_len _ _ _) hb fun j hj => by rw [bckTo_bgt _ _ _ hj, if_neg (by omega)]
theorem fold_bck {r : Nat} {b : List Int} (hr : r < 4) (hb : b.length = 16) : ∀ k, k ≤ 16 → (leadL r k).foldl (stepU r) b = bckTo b r k
  | 0, _ => (bckTo_none r hb).symm
  | k + 1, hk => by
    have ih := fold_bck hr hb k (by omega)
    by_cases h : k < 16 ∧ k / 2 ^ r % 2 = 0
    · rw [leadL_yes h, List.foldl_append, ih]
      refine bgt_ext (n := 16) (by rw [List.foldl_cons, List.foldl_nil, stepU_len, bckTo_len]) (bckTo_len _ _ _) fun j hj => ?_
      have hm := lead_mate hr ⟨k, h⟩
      obtain ⟨e1, e2, e3⟩ := leadF ⟨r, hr⟩ ⟨j, hj⟩
      obtain ⟨f1, f2, f3⟩ := leadF ⟨r, hr⟩ ⟨k, h.1⟩
      have hp := Nat.two_pow_pos r
      simp only at e1 e2 e3 f2 hm
      have fk := f2 h.2
      have hmk := or_pairF ⟨r, hr⟩ ⟨k, h.1⟩ h.2
      rw [List.foldl_cons, List.foldl_nil, stepU_bgt hr (bckTo_len _ _ _)]
      show (if k + 2 ^ r = j then _ else if k = j then _ else _) = _
      have b1 : bgt (bckTo b r k) k = bgt b k := by rw [bckTo_bgt _ _ _ h.1, if_neg (by omega)]
      have b2 : bgt (bckTo b r k) (k + 2 ^ r) = bgt b (k + 2 ^ r) := by
        rw [bckTo_bgt _ _ _ hm, if_neg]
        have := (mate r hr k h.1).2.1 h.2
        omega
      show (if k + 2 ^ r = j then unB (bgt (bckTo b r k) k) (bgt (bckTo b r k) (k + 2 ^ r)) (turnOf k r) else if k = j then unA (bgt (bckTo b r k) k) (bgt (bckTo b r k) (k + 2 ^ r)) (turnOf k r) else bgt (bckTo b r k) j) = _
      rw [b1, b2]
      by_cases h1 : k + 2 ^ r = j
      · subst h1
        have hmt := (mate r hr k h.1).2.1 h.2
        rw [if_pos rfl, bckTo_bgt _ _ _ hj, if_pos (by omega), if_neg (by omega), hmt.2.2.2.2]
      · rw [if_neg h1]
        by_cases h2 : k = j
        · subst h2
          rw [if_pos rfl, bckTo_bgt _ _ _ hj, if_pos (by omega), if_pos h.2]
        · rw [if_neg h2, bckTo_bgt _ _ _ hj, bckTo_bgt _ _ _ hj]
          by_cases hl : lead r j < k
          · rw [if_pos hl, if_pos (show lead r j < k + 1 by omega)]
          · have : lead r j ≠ k := by
              intro e
              by_cases hj0 : j / 2 ^ r % 2 = 0
              · have := e2 hj0; omega
              · have := e3 hj0; omega
            rw [if_neg hl, if_neg (show ¬ lead r j < k + 1 by omega)]
    · rw [leadL_no h, ih]
      refine bgt_ext (n := 16) (bckTo_len _ _ _) (bckTo_len _ _ _) fun j hj => ?_
      obtain ⟨e1, _⟩ := leadF ⟨r, hr⟩ ⟨j, hj⟩
      simp only at e1
      have : lead r j ≠ k := by
        intro e
        rw [e] at e1
        exact h ⟨by omega, e1⟩
      rw [bckTo_bgt _ _ _ hj, bckTo_bgt _ _ _ hj]
      by_cases hl : lead r j < k
      · rw [if_pos hl, if_pos (show lead r j < k + 1 by omega)]
      · rw [if_neg hl, if_neg (show ¬ lead r j < k + 1 by omega)]
theorem stU_eq {r : Nat} {b : List Int} (hr : r < 4) (hb : b.length = 16) : stU r b = bckR b r := fold_bck hr hb 16 (by decide)
theorem stU_len {r : Nat} {b : List Int} (hr : r < 4) (hb : b.length = 16) : (stU r b).length = 16 := by rw [stU_eq hr hb, bckR_len]
theorem stU_half {M N : Int} {b : List Int} (hb : b.length = 16) (h : Within M b) (hN : 3 * M + 8 ≤ 2 * N) {r : Nat} (hr : r < 4) : Within N (stU r b) := by rw [stU_eq hr hb]; exact bckR_half h hN hr
theorem st_inv {b : List Int} (hb : b.length = 16) : stU 0 (stU 1 (stU 2 (stU 3 b))) = invZ b := by
  rw [stU_eq (r := 3) (by decide) hb, stU_eq (r := 2) (by decide) (bckR_len _ _), stU_eq (r := 1) (by decide) (bckR_len _ _), stU_eq (r := 0) (by decide) (bckR_len _ _)]
  rfl
end Go.Proofs.Ythmgjielcmjenaa

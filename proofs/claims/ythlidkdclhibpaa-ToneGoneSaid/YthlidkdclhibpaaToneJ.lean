/- The law ToneGone; conditions: as each theorem states. -/
import Derived.Test.YthlidkdclhibpaaToneI
import Derived.Deep.WholeRow
namespace Go.Proofs.Ythlidkdclhibpaa
open Go.RowKit

theorem bgt_set (b : List Int) (k i : Nat) (v : Int) (hk : k < b.length) : bgt (b.set k v) i = if k = i then v else bgt b i := by
  unfold bgt
  rw [List.getD_eq_getElem?_getD, List.getD_eq_getElem?_getD, List.getElem?_set]
  split
  · rename_i h; subst h; simp
  · rfl
theorem outT_get (b' : List Int) (i : Nat) : ∀ (ks : List Nat) (b : List Int), b.length = 16 → ks.Nodup → (∀ k ∈ ks, k < 16) → bgt (outT b (ks.map (toneAt b'))) i = if i ∈ ks then bgt b i - bgt b' i else bgt b i
  | [], b, _, _, _ => by simp [outT]
  | k :: r, b, hb, hn, hk => by
    rw [List.nodup_cons] at hn
    have hk16 := hk k (by simp)
    have e : outT b ((k :: r).map (toneAt b')) = outT (b.set k (bgt b k - bgt b' k)) (r.map (toneAt b')) := by
      unfold outT
      rw [List.map_cons, List.foldl_cons]
      congr 1
      unfold outStep toneAt
      simp only
      rw [if_pos (by omega), Int.toNat_natCast]
    rw [e, outT_get b' i r _ (by simp [hb]) hn.2 (fun x hx => hk x (by simp [hx])), bgt_set _ _ _ _ (by omega)]
    by_cases h : k = i
    · subst h
      simp [hn.1]
    · have : i ≠ k := fun e => h e.symm
      simp [h, this]
def idxs (b : List Int) : List Nat := (List.range 16).filter (pickT b)
theorem find_idxs (b : List Int) : findT b = (idxs b).map (toneAt b) := rfl
theorem idxs_nodup (b : List Int) : (idxs b).Nodup := List.nodup_range.filter _
theorem idxs_lt (b : List Int) : ∀ k ∈ idxs b, k < 16 := fun _ hk => List.mem_range.1 (List.mem_filter.1 hk).1
theorem find_big {b : List Int} (hr : BigB b) (hb : b.length = 16) : ∀ t ∈ findT b, t.big := by
  intro t ht
  rw [find_idxs] at ht
  obtain ⟨k, hk, rfl⟩ := List.mem_map.1 ht
  have h16 := idxs_lt b k hk
  obtain ⟨x, hx⟩ := list_get hb h16
  have := hr k x hx
  unfold ToneV.big toneAt
  simp only
  rw [bgt_get hx]
  omega
theorem out_big {b : List Int} (hr : BigB b) (hb : b.length = 16) (m : Nat) : BigB (outT b ((findT b).take m)) := by
  intro i x hx
  have hi : i < 16 := by
    have h1 := (List.getElem?_eq_some_iff.1 hx).1
    rw [outT_len, hb] at h1
    exact h1
  have h1 := bgt_get hx
  rw [find_idxs, ← List.map_take, outT_get b i _ b hb ((idxs_nodup b).sublist (List.take_sublist _ _)) (fun _ hk => idxs_lt b _ (List.mem_of_mem_take hk))] at h1
  obtain ⟨y, hy⟩ := list_get hb hi
  have h2 := hr i y hy
  rw [bgt_get hy] at h1
  split at h1 <;> omega
/-- is a place one of the first tones found? -/
def foundTo (b : List Int) (i m : Nat) : Bool := ((findT b).take m).any fun t => decide (t.idx = (i : Int))
theorem foundTo_succ (b : List Int) (i : Nat) {m : Nat} {t : ToneV} (h : (findT b)[m]? = some t) : foundTo b i (m + 1) = (foundTo b i m || decide (t.idx = (i : Int))) := by
  obtain ⟨hm, rfl⟩ := List.getElem?_eq_some_iff.1 h
  unfold foundTo
  rw [List.take_succ_eq_append_getElem hm, List.any_append]
  simp
theorem found_out (b : List Int) (hb : b.length = 16) (i m : Nat) (hm : (findT b).length ≤ m) : bgt (outT b (findT b)) i = if foundTo b i m = true then 0 else bgt b i := by
  have h1 : foundTo b i m = decide (i ∈ idxs b) := by
    unfold foundTo
    rw [List.take_of_length_le hm, find_idxs, List.any_map, Bool.eq_iff_iff, List.any_eq_true, decide_eq_true_eq]
    constructor
    · rintro ⟨a, h, h2⟩
      have h3 : ((a : Int)) = (i : Int) := of_decide_eq_true h2
      have : a = i := by omega
      subst this; exact h
    · intro h
      exact ⟨i, h, by simp [Function.comp, toneAt]⟩
  rw [h1, find_idxs, outT_get b i _ b hb (idxs_nodup b) (idxs_lt b)]
  by_cases h : i ∈ idxs b <;> simp [h]

set_option maxRecDepth 100000 in
set_option maxHeartbeats 4000000 in
theorem ToneGone_walk (b : List Int) (w : World) (hb : b.length = 16) :
    Calls Try.prog 12 #[blockV b] w fun e w' => e = .returned (.bool true) ∧ Below w.heap.size w w' := by
  have HN := Lib.hid (fun W => lawnear_any b W hb)
  obtain ⟨N, hN⟩ : ∃ N, b.all nearI = N := ⟨_, rfl⟩
  rw [hN] at HN
  have H1 := Lib.hid (fun (h : N = true) W => toneFind_any b W hb (near_big (hN.trans h)))
  have H2 := Lib.hid (fun (h : N = true) A cap W hr => toneOut_any b (findT b) A cap W hb (by have := findT_len b; omega) hr (fun m _ => out_big (near_big (hN.trans h)) hb m) (find_big (near_big (hN.trans h)) hb))
  have HO := Lib.hid (fun i m hm => found_out b hb i m hm)
  have HFL := Lib.hid (findT_len b)
  unfold blockV at *
  have HC := Lib.hid (fun (k : Nat) (x : Int) (h : b[k]? = some x) => blk_get h)
  have hsz : (b.map (Value.int .i64)).toArray.size = 16 := by simp [hb]
  have hXl : (outT b (findT b)).length = 16 := by rw [outT_len, hb]
  have HX := Lib.hid (fun (k : Nat) (x : Int) (h : (outT b (findT b))[k]? = some x) => And.intro (blk_get h) (bgt_get h))
  have HXl := Lib.hid hXl
  have hsz2 : ((outT b (findT b)).map (Value.int .i64)).toArray.size = 16 := by simp [hXl]
  have HX1 := Lib.hid (ints_one (outT b (findT b)))
  generalize outT b (findT b) = X at *
  generalize (X.map (Value.int .i64)).toArray = xs at *
  generalize (b.map (Value.int .i64)).toArray = cs at *
  have HF := Lib.hid (show (Try.prog.info? 83).map (·.size) = some cs.size by rw [hsz]; exact inf_block)
  have HF2 := Lib.hid (show (Try.prog.info? 83).map (·.size) = some xs.size by rw [hsz2]; exact inf_block)
  have Hs2 := Lib.hid hsz2
  have hB := Lib.hid (heap_alloc_new w (.cells cs 83))
  have Hb := Lib.hid hb
  clear hN hb hsz hsz2 hXl
  cases N
  · clear H1 H2
    go_enter Try.func12, Try.ntmps12
    go_wp2_with (first | (go_at_call 48; refine (HN.out _).mono ?_; rintro e w1 ⟨rfl, hb1⟩) | (go_at_call 49; refine (awake11_any _).mono ?_; rintro e w2 ⟨rfl, hb2⟩) | (refine wpList_load_row_w rfl 83 (.tmp 1) rfl w.heap.size rfl _ cs _ _ hB.out Try.underlying83 rfl HF.out ?_))
    go_ret
    exact ⟨rfl, bnext (bnew _ _) (bnext hb1 hb2)⟩
  · have G1 := Lib.hid (H1.out rfl)
    have G2 := Lib.hid (H2.out rfl)
    clear H1 H2
    go_enter Try.func12, Try.ntmps12
    go_wp2_with (first | (go_at_call 48; refine (HN.out _).mono ?_; rintro e w1 ⟨rfl, hb1⟩; have hB1 := Lib.hid ((hb1.block w.heap.size (by simp)).trans hB.out)) | (refine wpList_load_row_w rfl 83 (.tmp 1) rfl w.heap.size rfl _ cs _ _ (by first | exact hB1.out | exact hB.out) Try.underlying83 rfl HF.out ?_) | (go_at_call 52; fail))
    refine (G1.out _).mono ?_
    rintro e w2 ⟨A, c, rfl, hlc, hc63, hrow, hb2⟩
    have Hrow := Lib.hid hrow
    have Hb2 := Lib.hid (bnext (bnew _ _) (bnext hb1 hb2))
    have hB2 := Lib.hid ((hb2.block w.heap.size (by have := hb1.size; simp at this; omega)).trans hB1.out)
    have Q2 := Lib.hid (G2.out A c w2 hrow)
    obtain ⟨L, hL⟩ : ∃ L, (findT b).length = L := ⟨_, rfl⟩
    have hL16 : L ≤ 16 := by rw [← hL]; exact HFL.out
    rw [hL] at hlc Q2 ⊢
    have HL := Lib.hid hL
    have hs1 := hb1.size
    simp at hs1
    have hs2 := hb2.size
    clear hrow hb1 hb2 hL hB1 hB G2
    go_wp2_with (first | (refine wpList_load_row_w rfl 83 (.tmp 1) rfl w.heap.size rfl _ cs _ _ hB2.out Try.underlying83 rfl HF.out ?_) | (go_at_call 54; fail))
    refine Q2.out.mono ?_
    rintro e w3 ⟨rfl, hb3⟩
    have Hrow3 := Lib.hid (Hrow.out.later hb3)
    have Hb3 := Lib.hid (bnext Hb2.out hb3)
    have hB3 := Lib.hid ((hb3.block w.heap.size (by omega)).trans hB2.out)
    have hs3 := hb3.size
    clear hb3 Hrow Hb2 hB2 Q2
    go_wp2_with (first | (refine wpList_store_row_w rfl 83 (.tmp 4) (.tmp 16) rfl w3.heap.size rfl _ _ xs rfl (heap_alloc_new w3 _) HF2.out (by rw [Hs2.out]; rfl) HX1.out ?_; rw [World.setRow_alloc_new]))
    have HX4 := Lib.hid (heap_alloc_new w3 (.cells xs 83))
    have HB4 := Lib.hid ((heap_alloc_old w3 (.cells xs 83) (by omega)).trans hB3.out)
    have Hb4 := Lib.hid (bnext Hb3.out (bnew w3 (.cells xs 83)))
    have Hrow4 := Lib.hid (Hrow3.out.later (bnew w3 (.cells xs 83)))
    have hs4 : (w3.alloc (.cells xs 83)).heap.size = w3.heap.size + 1 := by simp
    have hs5 : w3.heap.size < (w3.alloc (.cells xs 83)).heap.size := by simp
    have hs6 : w.heap.size < (w3.alloc (.cells xs 83)).heap.size := by simp; omega
    have Hs5 := Lib.hid hs5
    have Hs6 := Lib.hid hs6
    clear hB3 Hb3 Hrow3 hs4 hs5 hs6
    generalize hg3 : w3.heap.size = g3 at *
    have Hg3 := Lib.hid hg3
    clear hg3
    generalize w3.alloc (.cells xs 83) = w4 at *
    go_loopw [5] (fun i wr => ∃ (m : Nat), m ≤ 16 ∧ i = .int .i64 m ∧ Below w4.heap.size w4 wr) (fun i _ => (16 - intOf i).toNat)
    case atStart => exact ⟨0, by omega, rfl, Below.refl _ _⟩
    case round =>
      obtain ⟨m, hm, rfl, hbel⟩ := hrel
      have Hbel := Lib.hid hbel
      clear hbel
      by_cases hlt : m < 16
      · have t1 : (m : Int) < 16 := by omega
        go_wp2_with fail
        go_loop [6, 7] (fun f k => ∃ (j : Nat), j ≤ L ∧ k = .int .i64 j ∧ f = .bool (foundTo b m j)) (fun _ k => L - (intOf k).toNat)
        case atStart => exact ⟨0, by omega, rfl, rfl⟩
        case round =>
          obtain ⟨j, hj, rfl, rfl⟩ := hrel
          obtain ⟨F, hF⟩ : ∃ F, foundTo b m j = F := ⟨_, rfl⟩
          rw [hF]
          have HFF := Lib.hid hF
          clear hF
          by_cases hjL : j < L
          · obtain ⟨t, ht⟩ := list_get (k := j) HL.out hjL
            obtain ⟨g, off, hA, hg, k0, _⟩ := tone_row (Hrow4.out.later Hbel.out) ht
            have HS := Lib.hid (foundTo_succ b m ht)
            rw [HFF.out] at HS
            subst hA
            obtain ⟨ix, vl⟩ := t
            simp only at k0 HS
            clear ht
            have t2 : (j : Int) < (L : Int) := by omega
            cases F
            · go_wp2
              go_round
              case rel => exact ⟨j + 1, by omega, by go_num, val_bool (by rw [HS.out, Bool.false_or, Bool.eq_iff_iff]; simp)⟩
              case measure => simp [intOf]; omega
            · go_wp2
              go_round
              case rel => exact ⟨j + 1, by omega, by go_num, val_bool (by rw [HS.out]; simp)⟩
              case measure => simp [intOf]; omega
          · have t2 : ¬ ((j : Int) < (L : Int)) := by omega
            obtain ⟨x, hx⟩ := list_get (k := m) Hb.out hlt
            obtain ⟨y, hy⟩ := list_get (k := m) HXl.out hlt
            have hcx := HC.out _ _ hx
            have hcy := (HX.out _ _ hy).1
            have ho := HO.out m j (by rw [HL.out]; omega)
            rw [(HX.out _ _ hy).2, HFF.out, bgt_get hx] at ho
            have hBr := (Hbel.out.block w.heap.size Hs6.out).trans HB4.out
            have hXr := (Hbel.out.block g3 Hs5.out).trans HX4.out
            have hx5 := gw_cells hBr
            have hy5 := gw_cells hXr
            clear hx hy hBr hXr
            cases F
            · simp only [Bool.false_eq_true, if_false] at ho
              subst ho
              go_wp2
              refine wp_region_calm (by kernel_rfl) (by kernel_rfl) ?_
              repeat (go_big_quiet_step (fail))
              refine wpQuiet_nil ?_
              intro w5 hw'
              have hb5 := gw_below hw'
              have HW5 := Lib.hid (bnext Hbel.out hb5)
              clear hw' hb5 hx5 hy5
              go_wp2
              go_roundw
              case rel => exact ⟨m + 1, by omega, by go_num, HW5.out⟩
              case measure => simp [intOf]; omega
            · simp only [if_true] at ho
              subst ho
              go_wp2
              refine wp_region_calm (by kernel_rfl) (by kernel_rfl) ?_
              repeat (go_big_quiet_step (fail))
              refine wpQuiet_nil ?_
              intro w5 hw'
              have hb5 := gw_below hw'
              have HW5 := Lib.hid (bnext Hbel.out hb5)
              clear hw' hb5 hx5 hy5
              go_wp2
              go_roundw
              case rel => exact ⟨m + 1, by omega, by go_num, HW5.out⟩
              case measure => simp [intOf]; omega
      · have t1 : ¬ ((m : Int) < 16) := by omega
        go_wp2_with (go_at_call 49; refine (awake11_any _).mono ?_; rintro e w5 ⟨rfl, hb5⟩)
        go_ret
        exact ⟨rfl, bnext Hb4.out (bnext Hbel.out hb5)⟩
theorem ToneGone_law (W : World) (v0 : Value) (a0 : Arg W (tyRep (.int .i64) 1 16) v0) :
    Calls Try.prog 12 #[v0] W fun e w' => e = .returned (.bool true) ∧ Below W.heap.size W w' := by
  obtain ⟨b, hb, rfl, _⟩ := arr_arg a0
  exact ToneGone_walk b W hb
end Go.Proofs.Ythlidkdclhibpaa

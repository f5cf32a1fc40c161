/- The law FitSearches; conditions: as each theorem states. -/
import Derived.Test.YtibegmjkiceiiaaFitL
import Derived.Test.YtibegmjkiceiiaaFitI
namespace Go.Proofs.Ytibegmjkiceiiaa
open Go.RowKit

theorem low23 {b : List Int} (hb : b.length = 16) (h : b.all slimI = true) : Low23 b := by
  intro k hk
  obtain ⟨x, hx⟩ := list_get (k := k) hb hk
  have h1 := List.all_eq_true.1 h x (List.mem_of_getElem? hx)
  unfold slimI at h1
  have h2 := widthZ_bd (k := 23) (of_decide_eq_true h1)
  rw [bgt_get hx]
  unfold absZ at h2
  repeat' split at h2
  all_goals omega
theorem zero4_gain : zero4.length = 4 ∧ ∀ i, i < 4 → 0 ≤ bgt zero4 i ∧ bgt zero4 i ≤ 3 := ⟨rfl, fun i hi => by
  match i, hi with
  | 0, _ | 1, _ | 2, _ | 3, _ => simp [bgt, zero4]⟩
theorem exact_right {b : List Int} (hb : b.length = 16) (h : b.all slimI = true) : RightF (exactZ b) :=
  told_right zero4_gain (by simp) (fun t ht => by simp at ht) List.Pairwise.nil ScB.zero (low23 hb h)
theorem exact_zero : exactZ zero16 = zeroFr := by
  unfold exactZ toldZ
  rw [show outT zero16 [] = zero16 from rfl, exact_steps rfl]
  rfl
theorem Low23.bd {b : List Int} (h : Low23 b) : BdB 2147483648 b := fun k hk => by have := h k hk; omega
/-- the example's spectrum -/
def exB : List Int := [1000, -3, 0, 0, 0, 0, 0, 0, 0, 0, 0, 0, 0, 0, 0, 0]
theorem exB_slim : exB.all slimI = true := by decide +kernel
theorem exB_big : BigB exB := near_big (by decide +kernel)
theorem zero16_big : BigB zero16 := near_big (by decide +kernel)
theorem exB_fit : fitErr exB zero4 55 = 0 := by decide +kernel
theorem exB_fitF : fitF exB zero4 55 = exactZ exB := by unfold fitF; rw [exB_fit, if_pos rfl, if_pos (by decide)]

set_option maxRecDepth 100000 in
set_option maxHeartbeats 4000000 in
theorem awake12_any (w : World) : Calls Try.prog 34 #[] w fun e w' => e = .returned (.bool true) ∧ Below w.heap.size w w' := by
  have HF := Lib.hid (show ∀ W, Calls Try.prog 43 #[blockV exB, .agg #[.int .i64 0, .int .i64 0, .int .i64 0, .int .i64 0], .int .i64 55] W (FitPost W (exactZ exB) 0) from fun W => by
    have := Frame_any exB zero4 55 W rfl exB_big rfl
    rwa [exB_fit, exB_fitF] at this)
  have HR := exact_right (b := exB) rfl exB_slim
  have HS := Lib.hid (fun A c W hr => Spectrum_any (exactZ exB) A c W HR hr)
  rw [exact_spec (b := exB) rfl (low23 rfl exB_slim).bd] at HS
  have HX := Lib.hid (fun W => Exact_any zero16 W rfl zero16_big)
  rw [exact_zero] at HX
  have HSm := Lib.hid (fun W => Same_one zeroFr none none 0 0 W ⟨rfl, rfl, rfl, rfl⟩ (Row.none_ _ _ _) (Row.none_ _ _ _) (Nat.zero_le _))
  have q : ∀ W, (Op.equalIn 10000 66 (.agg (exB.map (Value.int .i64)).toArray) (.agg (exB.map (Value.int .i64)).toArray)).run Try.prog W = .ok true W := fun W => (eq_block exB exB rfl rfl W).trans (by rw [decide_eq_true rfl])
  have HBb := Lib.hid (show Try.prog.built 66 [(0, .int .i64 1000), (1, .int .i64 (-3))] = some (exB.map (Value.int .i64)).toArray by kernel_rfl)
  have HFb := Lib.hid (show (Try.prog.info? 66).map (·.size) = some (exB.map (Value.int .i64)).toArray.size by exact inf_block)
  have HB1 := Lib.hid (ints_one exB)
  have HBs := Lib.hid (show (exB.map (Value.int .i64)).toArray.size = 16 from rfl)
  have hfz := fun tv => frameA_size (exact_len (b := exB)) tv
  have hf1 := fun A n c => frameA_one (exactZ exB) (tv := .slice A n c) rfl
  have Hft := Lib.hid (show (exactZ exB).tones = [] from rfl)
  unfold blockV at *
  have HX' := Lib.hid (show ∀ W, Calls Try.prog 42 #[.agg #[.int .i64 0, .int .i64 0, .int .i64 0, .int .i64 0, .int .i64 0, .int .i64 0, .int .i64 0, .int .i64 0, .int .i64 0, .int .i64 0, .int .i64 0, .int .i64 0, .int .i64 0, .int .i64 0, .int .i64 0, .int .i64 0]] W fun e w' => e = .returned (.agg zeroF) ∧ Below W.heap.size W w' from HX.out)
  have HSm' := Lib.hid (show ∀ W, Calls Try.prog 39 #[.agg zeroF, .agg zeroF] W fun e w' => e = .returned (.bool true) ∧ Below W.heap.size W w' from HSm.out)
  generalize exactZ exB = F at *
  generalize (exB.map (Value.int .i64)).toArray = bv at *
  have Hfz := Lib.hid hfz
  have Hf1 := Lib.hid hf1
  have HM := Lib.hid (heap_alloc_new w (.cells bv 66))
  clear hfz hf1 HX HSm HR
  go_enter Try.func34, Try.ntmps34
  go_wp2_with (first | (refine wpList_built rfl 66 _ rfl bv (by simpa [Act.eval] using HBb.out) ?_) | (refine wpList_store_row_w rfl 66 (.tmp 1) (.tmp 4) rfl w.heap.size rfl _ _ bv rfl (heap_alloc_new w _) HFb.out (by rw [HBs.out]; rfl) HB1.out ?_; rw [World.setRow_alloc_new]) | (refine wpList_load_row_w rfl 66 (.tmp 1) rfl w.heap.size rfl _ bv _ _ HM.out Try.underlying66 rfl HFb.out ?_) | (go_at_call 43; fail))
  refine (HF.out _).mono ?_
  rintro e w1 ⟨A, c, rfl, _, _, _, hrow, hb1⟩
  simp only [Hft.out] at hrow ⊢
  have Hfz2 := Lib.hid (Hfz.out (.slice A ([] : List ToneV).length c))
  have Hf12 := Lib.hid (Hf1.out A ([] : List ToneV).length c)
  have HS2 := Lib.hid (fun W => HS.out A c W (by rw [Hft.out]; exact Row.none_ _ _ _))
  rw [Hft.out] at HS2
  obtain ⟨fc, hfc⟩ : ∃ fc, frameA F (.slice A ([] : List ToneV).length c) = fc := ⟨_, rfl⟩
  rw [hfc] at Hfz2 Hf12 HS2 ⊢
  have HFf := Lib.hid (show (Try.prog.info? 71).map (·.size) = some fc.size by rw [Hfz2.out]; exact inf_frame)
  have hb2 := bnext hb1 (bnew w1 (.cells fc 71))
  have HM1 := Lib.hid (hkeep HM.out hb2)
  have HB2 := Lib.hid (bnext (bnew w _) hb2)
  clear hrow hb1 hb2 hfc HM Hfz Hf1 HS
  go_wp2_with (refine wpList_store_row_w rfl 71 (.tmp 2) (.tmp 9) rfl w1.heap.size rfl _ _ fc rfl (heap_alloc_new w1 _) HFf.out (by rw [Hfz2.out]; rfl) Hf12.out ?_; rw [World.setRow_alloc_new])
  have P0 := gw_heap HM1.out
  have P1 := gw_heap (heap_alloc_new w1 (.cells fc 71))
  refine wp_region_calm (by kernel_rfl) (by kernel_rfl) ?_
  repeat (first | (go_big_quiet_want; refine quiet_load_row 66 (.tmp 1) rfl w.heap.size rfl _ bv _ _ P0 Try.underlying66 rfl HFb.out ?_; go_simp; go_big_quiet_on) | (go_big_quiet_want; refine quiet_load_row 71 (.tmp 2) rfl w1.heap.size rfl _ fc _ _ P1 Try.underlying71 rfl HFf.out ?_; go_simp; go_big_quiet_on) | go_big_quiet_step ((first | (go_at_call 44; exact calm_call (HS2.out _)) | (go_at_call 42; exact calm_call (HX'.out _)) | (go_at_call 39; exact calm_call (HSm'.out _)))))
  refine wpQuiet_nil ?_
  intro w5 hw'
  have hb5 := gw_below hw'
  go_wp2
  go_ret
  exact ⟨rfl, bnext HB2.out hb5⟩

set_option maxRecDepth 100000 in
set_option maxHeartbeats 8000000 in
theorem FitSearches_walk (b g : List Int) (room : Int) (tones : Bool) (w : World) (hb : b.length = 16) (hg : g.length = 4) :
    Calls Try.prog 6 #[blockV b, blockV g, .int .i64 room, .bool tones] w fun e w' => e = .returned (.bool true) ∧ Below w.heap.size w w' := by
  have HN := Lib.hid (fun W => near12_any b W hb)
  obtain ⟨N, hN⟩ : ∃ N, b.all nearI = N := ⟨_, rfl⟩
  rw [hN] at HN
  have H1 := Lib.hid (fun (h : N = true) W => Search_any b g room tones W hb (near_big (hN.trans h)) hg)
  have H2 := Lib.hid (fun (h : N = true) W => lawsearch_any b g room tones W hb (near_big (hN.trans h)) hg)
  have H3 := Lib.hid (fun (h : N = true) W => Mask_any b W hb (near_big (hN.trans h)))
  have H4 := Lib.hid (fun (h : N = true) W => lawmask_any b W hb (near_big (hN.trans h)))
  rw [← mask_eq hb] at H4
  have HSl := Lib.hid (searchZ_len (b := b) (room := room) (tones := tones) hg)
  have HSt := Lib.hid (show (searchZ b g room tones).1.tones.length ≤ 1000000 by
    obtain ⟨s, n, h, _⟩ := search_ends b g room tones
    rw [h]
    show (tonesFor b tones).length ≤ _
    unfold tonesFor
    split
    · have := findT_len b; omega
    · simp)
  have q : ∀ W, (Op.equalIn 10000 67 (.agg ((maskZ b).map (Value.int .i64)).toArray) (.agg ((maskZ b).map (Value.int .i64)).toArray)).run Try.prog W = .ok true W := fun W => (eq_four (maskZ b) (maskZ b) (mask_len b) (mask_len b) W).trans (by rw [decide_eq_true rfl])
  generalize searchZ b g room tones = S at *
  obtain ⟨F, n⟩ := S
  simp only at HSl HSt
  unfold blockV at *
  have hbz : (b.map (Value.int .i64)).toArray.size = 16 := by simp [hb]
  have hgz : (g.map (Value.int .i64)).toArray.size = 4 := by simp [hg]
  generalize (b.map (Value.int .i64)).toArray = bv at *
  generalize (g.map (Value.int .i64)).toArray = gv at *
  generalize ((maskZ b).map (Value.int .i64)).toArray = mv at *
  have HFb := Lib.hid (show (Try.prog.info? 66).map (·.size) = some bv.size by rw [hbz]; exact inf_block)
  have HFg := Lib.hid (show (Try.prog.info? 67).map (·.size) = some gv.size by rw [hgz]; exact inf_four)
  have M2 := Lib.hid (heap2 w (.cells bv 66) (.cells gv 67))
  clear hN hb hg hbz hgz
  cases N
  · clear H1 H2 H3 H4
    go_enter Try.func6, Try.ntmps6
    go_wp2_with (first | (go_at_call 33; refine (HN.out _).mono ?_; rintro e w1 ⟨rfl, hb1⟩) | (go_at_call 34; refine (awake12_any _).mono ?_; rintro e w2 ⟨rfl, hb2⟩) | (refine wpList_load_row_w rfl 66 (.tmp 4) rfl w.heap.size rfl _ bv _ _ M2.out.1 Try.underlying66 rfl HFb.out ?_))
    go_ret
    exact ⟨rfl, btail M2.out.2.2.2 (by have := M2.out.2.2.1; omega) (bnext hb1 hb2)⟩
  · have G1 := Lib.hid (H1.out rfl)
    have G2 := Lib.hid (H2.out rfl)
    have G3 := Lib.hid (H3.out rfl)
    have G4 := Lib.hid (H4.out rfl)
    clear H1 H2 H3 H4
    go_enter Try.func6, Try.ntmps6
    go_wp2_with (first | (go_at_call 33; fail) | (refine wpList_load_row_w rfl 66 (.tmp 4) rfl w.heap.size rfl _ bv _ _ M2.out.1 Try.underlying66 rfl HFb.out ?_))
    refine (HN.out _).mono ?_
    rintro e w1 ⟨rfl, hb1⟩
    have K0 := Lib.hid (hkeep M2.out.1 hb1)
    have K1 := Lib.hid (hkeep M2.out.2.1 hb1)
    have KB := Lib.hid (btail M2.out.2.2.2 (by have := M2.out.2.2.1; omega) hb1)
    clear hb1 M2
    go_wp2_with (first | (go_at_call 35; fail) | (refine wpList_load_row_w rfl 66 (.tmp 4) rfl w.heap.size rfl _ bv _ _ K0.out Try.underlying66 rfl HFb.out ?_) | (refine wpList_load_row_w rfl 67 (.tmp 5) rfl (w.heap.size + 1) rfl _ gv _ _ K1.out Try.underlying67 rfl HFg.out ?_))
    refine (G1.out _).mono ?_
    rintro e w2 ⟨A1, c1, rfl, _, _, _, _, hrow1, hb2⟩
    simp only at hrow1 ⊢
    have Hfz1 := Lib.hid (frameA_size HSl.out (.slice A1 F.tones.length c1))
    have Hf11 := Lib.hid (frameA_one F (tv := .slice A1 F.tones.length c1) rfl)
    obtain ⟨f1, hf1⟩ : ∃ f1, frameA F (.slice A1 F.tones.length c1) = f1 := ⟨_, rfl⟩
    rw [hf1] at Hfz1 Hf11 ⊢
    have HE1 := Lib.hid hf1
    have HFf1 := Lib.hid (show (Try.prog.info? 71).map (·.size) = some f1.size by rw [Hfz1.out]; exact inf_frame)
    have hb3 := bnext hb2 (bnew w2 (.cells f1 71))
    have L0 := Lib.hid (hkeep K0.out hb3)
    have L1 := Lib.hid (hkeep K1.out hb3)
    have LB := Lib.hid (btail KB.out (Nat.le_refl _) hb3)
    have Lf := Lib.hid (heap_alloc_new w2 (.cells f1 71))
    have Lr := Lib.hid (hrow1.later (bnew w2 (.cells f1 71)))
    clear hb2 hb3 hrow1 hf1 K0 K1 KB
    go_wp2_with (first | (go_at_call 36; fail) | (refine wpList_store_row_w rfl 71 (.tmp 9) (.tmp 23) rfl w2.heap.size rfl _ _ f1 rfl (heap_alloc_new w2 _) HFf1.out (by rw [Hfz1.out]; rfl) Hf11.out ?_; rw [World.setRow_alloc_new]) | (refine wpList_load_row_w rfl 66 (.tmp 4) rfl w.heap.size rfl _ bv _ _ L0.out Try.underlying66 rfl HFb.out ?_) | (refine wpList_load_row_w rfl 67 (.tmp 5) rfl (w.heap.size + 1) rfl _ gv _ _ L1.out Try.underlying67 rfl HFg.out ?_))
    refine (G2.out _).mono ?_
    rintro e w3 ⟨A2, c2, rfl, _, _, _, _, hrow2, hb4⟩
    simp only at hrow2 ⊢
    have Hfz2 := Lib.hid (frameA_size HSl.out (.slice A2 F.tones.length c2))
    have Hf12 := Lib.hid (frameA_one F (tv := .slice A2 F.tones.length c2) rfl)
    have HSm := Lib.hid (fun W r1 r2 => Same_one F A1 A2 c1 c2 W HSl.out r1 r2 HSt.out)
    rw [HE1.out] at HSm
    obtain ⟨f2, hf2⟩ : ∃ f2, frameA F (.slice A2 F.tones.length c2) = f2 := ⟨_, rfl⟩
    rw [hf2] at Hfz2 Hf12 HSm ⊢
    have HFf2 := Lib.hid (show (Try.prog.info? 71).map (·.size) = some f2.size by rw [Hfz2.out]; exact inf_frame)
    have hb5 := bnext hb4 (bnew w3 (.cells f2 71))
    have P0 := gw_heap (hkeep L0.out hb5)
    have Pf := gw_heap (hkeep Lf.out hb5)
    have Pg := gw_heap (heap_alloc_new w3 (.cells f2 71))
    have PB := Lib.hid (btail LB.out (Nat.le_refl _) hb5)
    have PR1 := Lib.hid (Lr.out.later hb5)
    have PR2 := Lib.hid (hrow2.later (bnew w3 (.cells f2 71)))
    have HSg := Lib.hid (fun (x : GW (w3.alloc (.cells f2 71))) => HSm.out x.1 (PR1.out.later x.2) (PR2.out.later x.2))
    clear hb4 hb5 hrow2 hf2 L0 L1 LB Lf Lr HSm
    go_wp2_with (first | (refine wpList_store_row_w rfl 71 (.tmp 11) (.tmp 31) rfl w3.heap.size rfl _ _ f2 rfl (heap_alloc_new w3 _) HFf2.out (by rw [Hfz2.out]; rfl) Hf12.out ?_; rw [World.setRow_alloc_new]))
    refine wp_region_calm (by kernel_rfl) (by kernel_rfl) ?_
    repeat (first | (go_big_quiet_want; refine quiet_load_row 66 (.tmp 4) rfl w.heap.size rfl _ bv _ _ P0 Try.underlying66 rfl HFb.out ?_; go_simp; go_big_quiet_on) | (go_big_quiet_want; refine quiet_load_row 71 (.tmp 9) rfl w2.heap.size rfl _ f1 _ _ Pf Try.underlying71 rfl HFf1.out ?_; go_simp; go_big_quiet_on) | (go_big_quiet_want; refine quiet_load_row 71 (.tmp 11) rfl w3.heap.size rfl _ f2 _ _ Pg Try.underlying71 rfl HFf2.out ?_; go_simp; go_big_quiet_on) | go_big_quiet_step ((first | (go_at_call 37; exact calm_call (G3.out _)) | (go_at_call 38; exact calm_call (G4.out _)) | (go_at_call 39; exact calm_call (HSg.out _)) | (go_at_call 34; exact calm_call (awake12_any _)))))
    refine wpQuiet_nil ?_
    intro w5 hw'
    have hb5 := gw_below hw'
    go_wp2
    go_ret
    exact ⟨rfl, btail PB.out (Nat.le_refl _) hb5⟩
theorem FitSearches_law (W : World) (v0 v1 v2 v3 : Value) (a0 : Arg W (tyRep (.int .i64) 1 16) v0) (a1 : Arg W (tyRep (.int .i64) 1 4) v1) (a2 : Arg W (.int .i64) v2) (a3 : Arg W .bool v3) :
    Calls Try.prog 6 #[v0, v1, v2, v3] W fun e w' => e = .returned (.bool true) ∧ Below W.heap.size W w' := by
  obtain ⟨b, hb, rfl, _⟩ := arr_arg a0
  obtain ⟨g, hg, rfl, _⟩ := arr_arg a1
  obtain ⟨room, ha, _, _⟩ := a2
  obtain rfl : v2 = .int .i64 room := by simpa using ha
  obtain ⟨t, ht⟩ := a3
  obtain rfl : v3 = .bool t := by simpa using ht
  exact FitSearches_walk b g room t W hb hg
end Go.Proofs.Ytibegmjkiceiiaa

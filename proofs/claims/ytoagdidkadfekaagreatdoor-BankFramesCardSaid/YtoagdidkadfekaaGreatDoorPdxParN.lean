/- ParN. Conditions: as each theorem states. -/
import Derived.Test.YtoagdidkadfekaaGreatDoorPdxParM

namespace Go.Proofs.YtoagdidkadfekaaGreatDoor
open Go.RowKit Go.Lib

def whereE (D : List MetaV) (i c b : Int) : Int := if metaE D i ≠ 0 then 7 else if c < 0 ∨ (metaI D i).channels ≤ c ∨ b < 0 ∨ countZ (metaI D i).length ≤ b then 5 else 0
/-- a frame's number within its sample -/
def frameNo (D : List MetaV) (i c b : Int) : Int := b * (metaI D i).channels + c
def whereAt (D : List MetaV) (size : Nat) (i c b : Int) : Int := if whereE D i c b = 0 then (metaI D i).first + frameNo D i c b * size else 0
def whereSum (D : List MetaV) (bs : List Nat) (i c b : Int) : Nat := if whereE D i c b = 0 then readTo bs ((metaI D i).sums + 4 * frameNo D i c b).toNat 4 else 0
theorem metaI_mem {D : List MetaV} {i : Int} (h : metaE D i = 0) : metaI D i ∈ D := by
  unfold metaE at h
  split at h
  · cases h
  · rename_i hi
    unfold metaI
    rw [if_neg hi]
    have hm : i.toNat < D.length := by omega
    rw [List.getD_eq_getElem?_getD, List.getElem?_eq_getElem hm]
    exact List.getElem_mem hm
theorem metaE_two (D : List MetaV) (i : Int) : metaE D i = 0 ∨ metaE D i = 7 := by unfold metaE; split <;> simp
/-- where a frame lies -/
theorem where_lies {bs : List Nat} {size : Nat} {D : List MetaV} (h : FitB bs size D) {i c b : Int} (hE : whereE D i c b = 0) :
    ∃ x ∈ D, metaI D i = x ∧ ∃ (ch cn bn S F q P : Nat), x.channels = ch ∧ c = cn ∧ b = bn ∧ x.sums = S ∧ x.first = F ∧ (bn : Int) * (ch : Int) = ((bn * ch : Nat) : Int) ∧ bn * ch + cn = q ∧ q * size = P ∧ (q : Int) * (size : Int) = (P : Int) ∧ S + 4 * q + 4 ≤ F ∧ F + P + size ≤ bs.length ∧ (0 ≤ c ∧ c < x.channels) ∧ 0 ≤ b ∧ b < countZ x.length ∧ bn * ch ≤ 1000000 := by
  unfold whereE at hE
  split at hE
  · cases hE
  split at hE
  · cases hE
  rename_i h1 h2
  have h1 : metaE D i = 0 := by simpa using h1
  have hx := metaI_mem h1
  obtain ⟨x, hxe⟩ : ∃ x, metaI D i = x := ⟨_, rfl⟩
  rw [hxe] at h2 hx
  obtain ⟨r1, r2, r3, r4, r5⟩ := right_bds (h.right x hx)
  obtain ⟨l1, l2, l3⟩ := h.lie x hx
  obtain ⟨ch, hch⟩ := Int.eq_ofNat_of_zero_le (show 0 ≤ x.channels by omega)
  obtain ⟨cn, hcn⟩ := Int.eq_ofNat_of_zero_le (show 0 ≤ c by omega)
  obtain ⟨bn, hbn⟩ := Int.eq_ofNat_of_zero_le (show 0 ≤ b by omega)
  obtain ⟨S, hS⟩ := Int.eq_ofNat_of_zero_le (show 0 ≤ x.sums by omega)
  have hF0 : 0 ≤ framesN x := by
    have := (genM_right (h.right x hx)).fr
    omega
  obtain ⟨F, hF⟩ := Int.eq_ofNat_of_zero_le (show 0 ≤ x.first by omega)
  have hcz : 0 ≤ countZ x.length ∧ countZ x.length ≤ 65536 := by unfold countZ; split <;> omega
  obtain ⟨cz, hczn⟩ := Int.eq_ofNat_of_zero_le hcz.1
  have hfr : framesN x = ((cz * ch : Nat) : Int) := by
    unfold framesN
    rw [hczn, hch]
    push_cast; rfl
  have hq : bn * ch + cn + 1 ≤ cz * ch := by
    have := Nat.mul_le_mul_right ch (show bn + 1 ≤ cz by omega)
    rw [Nat.succ_mul] at this
    omega
  have hP : (bn * ch + cn) * size + size ≤ size * (cz * ch) := by
    have := Nat.mul_le_mul_right size hq
    rw [Nat.succ_mul, Nat.mul_comm (cz * ch) size] at this
    exact this
  have e1 : (size : Int) * ((cz * ch : Nat) : Int) = ((size * (cz * ch) : Nat) : Int) := by push_cast; rfl
  rw [hfr, hS, hF] at l2
  rw [hfr, hF, e1] at l3
  have hbc : bn * ch ≤ 1000000 := by
    have hc2 : ch ≤ 2 := by omega
    have := Nat.mul_le_mul (show bn ≤ 65536 by omega) hc2
    omega
  refine ⟨x, hx, hxe, ch, cn, bn, S, F, bn * ch + cn, (bn * ch + cn) * size, hch, hcn, hbn, hS, hF, by push_cast; rfl, rfl, rfl, by push_cast; rfl, ?_, ?_, by omega, by omega, by omega, hbc⟩
  · generalize cz * ch = T at *
    generalize bn * ch + cn = q at *
    omega
  · generalize size * (cz * ch) = T at *
    generalize (bn * ch + cn) * size = P at *
    omega
/-- what Where leaves -/
def WherePost (w : World) (D : List MetaV) (bs : List Nat) (size : Nat) (i c b : Int) (e : Ending) (w' : World) : Prop :=
  e = .returned (.tuple #[.int .i64 (whereAt D size i c b), .int .u32 (whereSum D bs i c b : Nat), .int .i64 (whereE D i c b)]) ∧ Below w.heap.size w w'
set_option maxRecDepth 100000 in
set_option maxHeartbeats 16000000 in
theorem Where_any (g size : Nat) (bs : List Nat) (D : List MetaV) (i c b : Int) (w : World) (h : BankAt w g bs size D) (hf : FitB bs size D) :
    Calls Tryz.prog 27 #[.pointer (some ⟨g, 0, none⟩), .int .i64 i, .int .i64 c, .int .i64 b] w (WherePost w D bs size i c b) := by
  have HMe := Lib.hid (BMeta_any g size bs D i w h (by have := hf.lo; omega) (by have := hf.many; omega))
  have HMf := Lib.hid (show (Tryz.prog.info? 49).map (·.size) = some 9 by kernel_rfl)
  have HO1 := Lib.hid (meta_all (metaI D i))
  have Hh := Lib.hid h
  have Hf := Lib.hid hf
  unfold WherePost
  by_cases hE : metaE D i = 0
  rotate_left
  · have hE7 : metaE D i = 7 := (metaE_two D i).resolve_left hE
    have hW : whereE D i c b = 7 := if_pos hE
    have hA : whereAt D size i c b = 0 := by unfold whereAt; rw [hW]; rfl
    have hS : whereSum D bs i c b = 0 := by unfold whereSum; rw [hW]; rfl
    rw [hW, hA, hS]
    rw [hE7] at HMe
    generalize metaI D i = x at *
    obtain ⟨nm, len, rate, ch, lp, f, t, sums, first⟩ := x
    clear hE hE7 hW hA hS h hf
    go_enter Tryz.func27, Tryz.ntmps27
    go_wp2_with (go_at_call 35; fail)
    refine HMe.out.mono ?_
    rintro e w2 ⟨rfl, hb2⟩
    go_wp2_with (refine wpList_store_row_w rfl 49 (.tmp 11) (.tmp 18) rfl w2.heap.size rfl _ _ #[.string nm, .int .i64 len, .int .i64 rate, .int .i64 ch, .bool lp, .int .i64 f, .int .i64 t, .int .i64 sums, .int .i64 first] rfl (heap_alloc_new w2 _) HMf.out rfl HO1.out ?_; rw [World.setRow_alloc_new])
    refine bodyPost_ret (results_t3 Tryz.results27 _ _) rfl ?_
    exact ⟨rfl, bnext hb2 (bnew w2 _)⟩
  rw [hE] at HMe
  by_cases hbad : c < 0 ∨ (metaI D i).channels ≤ c ∨ b < 0 ∨ countZ (metaI D i).length ≤ b
  · have hW : whereE D i c b = 5 := by unfold whereE; rw [if_neg (by simp [hE]), if_pos hbad]
    have hA : whereAt D size i c b = 0 := by unfold whereAt; rw [hW]; rfl
    have hS : whereSum D bs i c b = 0 := by unfold whereSum; rw [hW]; rfl
    rw [hW, hA, hS]
    obtain ⟨r1, _, r3, _⟩ := right_bds (hf.right _ (metaI_mem hE))
    have HCt := Lib.hid (fun W => CountI_any (metaI D i).length W (by omega))
    generalize metaI D i = x at *
    obtain ⟨nm, len, rate, ch, lp, f, t, sums, first⟩ := x
    clear hE hW hA hS h hf
    simp only at hbad
    generalize countZ len = cz at *
    by_cases q1 : c < 0
    · clear hbad
      go_enter Tryz.func27, Tryz.ntmps27
      go_wp2_with (go_at_call 35; fail)
      refine HMe.out.mono ?_
      rintro e w2 ⟨rfl, hb2⟩
      go_wp2_with (refine wpList_store_row_w rfl 49 (.tmp 11) (.tmp 18) rfl w2.heap.size rfl _ _ #[.string nm, .int .i64 len, .int .i64 rate, .int .i64 ch, .bool lp, .int .i64 f, .int .i64 t, .int .i64 sums, .int .i64 first] rfl (heap_alloc_new w2 _) HMf.out rfl HO1.out ?_; rw [World.setRow_alloc_new])
      refine bodyPost_ret (results_t3 Tryz.results27 _ _) rfl ?_
      exact ⟨rfl, bnext hb2 (bnew w2 _)⟩
    by_cases q2 : ch ≤ c
    · clear hbad
      go_enter Tryz.func27, Tryz.ntmps27
      go_wp2_with (go_at_call 35; fail)
      refine HMe.out.mono ?_
      rintro e w2 ⟨rfl, hb2⟩
      go_wp2_with (refine wpList_store_row_w rfl 49 (.tmp 11) (.tmp 18) rfl w2.heap.size rfl _ _ #[.string nm, .int .i64 len, .int .i64 rate, .int .i64 ch, .bool lp, .int .i64 f, .int .i64 t, .int .i64 sums, .int .i64 first] rfl (heap_alloc_new w2 _) HMf.out rfl HO1.out ?_; rw [World.setRow_alloc_new])
      refine bodyPost_ret (results_t3 Tryz.results27 _ _) rfl ?_
      exact ⟨rfl, bnext hb2 (bnew w2 _)⟩
    by_cases q3 : b < 0
    · clear hbad
      go_enter Tryz.func27, Tryz.ntmps27
      go_wp2_with (go_at_call 35; fail)
      refine HMe.out.mono ?_
      rintro e w2 ⟨rfl, hb2⟩
      go_wp2_with (refine wpList_store_row_w rfl 49 (.tmp 11) (.tmp 18) rfl w2.heap.size rfl _ _ #[.string nm, .int .i64 len, .int .i64 rate, .int .i64 ch, .bool lp, .int .i64 f, .int .i64 t, .int .i64 sums, .int .i64 first] rfl (heap_alloc_new w2 _) HMf.out rfl HO1.out ?_; rw [World.setRow_alloc_new])
      refine bodyPost_ret (results_t3 Tryz.results27 _ _) rfl ?_
      exact ⟨rfl, bnext hb2 (bnew w2 _)⟩
    have q4 : cz ≤ b := by omega
    clear hbad
    go_enter Tryz.func27, Tryz.ntmps27
    go_wp2_with (go_at_call 35; fail)
    refine HMe.out.mono ?_
    rintro e w2 ⟨rfl, hb2⟩
    go_wp2_with (first | (refine wpList_store_row_w rfl 49 (.tmp 11) (.tmp 18) rfl w2.heap.size rfl _ _ #[.string nm, .int .i64 len, .int .i64 rate, .int .i64 ch, .bool lp, .int .i64 f, .int .i64 t, .int .i64 sums, .int .i64 first] rfl (heap_alloc_new w2 _) HMf.out rfl HO1.out ?_; rw [World.setRow_alloc_new]) | (go_at_call 62; refine (HCt.out _).mono ?_; rintro e w3 ⟨rfl, rfl⟩))
    refine bodyPost_ret (results_t3 Tryz.results27 _ _) rfl ?_
    exact ⟨rfl, bnext hb2 (bnew w2 _)⟩
  · have hW : whereE D i c b = 0 := by unfold whereE; rw [if_neg (by simp [hE]), if_neg hbad]
    obtain ⟨x, hxD, hxe, chN, cn, bn, S, F, q, P, e1, rfl, rfl, e2, e3, hm1, hq, hP, hm2, l1, l2, ⟨c0, c1⟩, b0, b1, hbc⟩ := where_lies hf hW
    have HA := Lib.hid (show whereAt D size i cn bn = ((F + P : Nat) : Int) by
      unfold whereAt frameNo
      rw [if_pos hW, hxe, e1, e3, hm1, ← Int.natCast_add, hq, hm2]
      push_cast; rfl)
    obtain ⟨V, hV⟩ : ∃ V, readTo bs (S + 4 * q) 4 = V := ⟨_, rfl⟩
    have HS := Lib.hid (show whereSum D bs i cn bn = V by
      unfold whereSum frameNo
      rw [if_pos hW, hxe, e1, e2, hm1, ← Int.natCast_add, hq, ← hV]
      congr 1)
    have hVb : V < 4294967296 := by rw [← hV]; exact readTo_lt hf.byt _ 4
    obtain ⟨r1, _, r3, _⟩ := right_bds (hf.right _ hxD)
    have HCt := Lib.hid (fun W => CountI_any x.length W (by omega))
    have hln := hf.long
    have hlo := hf.lo
    have hhi := hf.hi
    obtain ⟨Ai, ci, Ad, cd, h1, h2, _, h4, _⟩ := h.at_
    have HRd := Lib.hid (fun W (hW : Below w.heap.size w W) => (show Calls Tryz.prog 53 #[.slice Ai bs.length ci, .int .i64 ((S : Int) + 4 * (q : Int)), .int .i64 4] W (fun e w' => e = .returned (.int .i64 (V : Nat)) ∧ W = w') from by
      have := read_any bs Ai bs.length ci (S + 4 * q) 4 W rfl (h2.later hW) hf.byt (by omega) (by omega) (by omega)
      rw [hV, show ((S + 4 * q : Nat) : Int) = (S : Int) + 4 * (q : Int) by push_cast; rfl] at this
      exact this))
    have HXc := Lib.hid (fun W (hW : Below w.heap.size w W) j v (hv : ([.slice Ai bs.length ci, .int .i64 size, .slice Ad D.length cd] : List Value)[j]? = some v) => (show W.cell? ⟨g, j, none⟩ = some v from by
      have hB : Blk w g 79 [.slice Ai bs.length ci, .int .i64 size, .slice Ad D.length cd] := h1
      rw [blk_cells (hB.below hW hB.lt) j]; exact hv))
    rw [HA.out, HS.out, hW]
    rw [hxe] at HMe HO1
    clear hbad hE hW hxe hf h h1 h2 h4 hxD hV HA HS Hf Hh
    obtain ⟨nm, len, rate, ch, lp, f, t, sums, first⟩ := x
    simp only at e1 e2 e3 c1 b1 r1 r3 HCt
    subst e1 e2 e3
    generalize countZ len = cz at *
    generalize bs.length = n at *
    generalize D.length = dn at *
    obtain ⟨Q0, hQ0⟩ : ∃ Q0, bn * chN = Q0 := ⟨_, rfl⟩
    rw [hQ0] at hm1 hq hbc
    have hqi : (Q0 : Int) + (cn : Int) = (q : Int) := by omega
    have HFP := Lib.hid (show (F : Int) + (P : Int) = ((F + P : Nat) : Int) by push_cast; rfl)
    have hwV : IntKind.u32.wrap (V : Int) = (V : Int) := by rw [IntKind.wrap_u32]; omega
    have k1 : ¬ (cn : Int) < 0 := by omega
    have k2 : ¬ (chN : Int) ≤ (cn : Int) := by omega
    have k3 : ¬ (bn : Int) < 0 := by omega
    have k4 : ¬ cz ≤ (bn : Int) := by omega
    clear hQ0 hq hP
    go_enter Tryz.func27, Tryz.ntmps27
    go_wp2_with (go_at_call 35; fail)
    refine HMe.out.mono ?_
    rintro e w2 ⟨rfl, hb2⟩
    have B2 := Lib.hid (bnext hb2 (bnew w2 (.cells #[.string nm, .int .i64 len, .int .i64 rate, .int .i64 chN, .bool lp, .int .i64 f, .int .i64 t, .int .i64 S, .int .i64 F] 49)))
    clear hb2
    go_wp2_with (first | (refine wpList_store_row_w rfl 49 (.tmp 11) (.tmp 18) rfl w2.heap.size rfl _ _ #[.string nm, .int .i64 len, .int .i64 rate, .int .i64 chN, .bool lp, .int .i64 f, .int .i64 t, .int .i64 S, .int .i64 F] rfl (heap_alloc_new w2 _) HMf.out rfl HO1.out ?_; rw [World.setRow_alloc_new]) | (go_at_call 62; refine (HCt.out _).mono ?_; rintro e w3 ⟨rfl, rfl⟩))
    obtain ⟨w3, hw3⟩ : ∃ w3, w2.alloc (.cells #[.string nm, .int .i64 len, .int .i64 rate, .int .i64 chN, .bool lp, .int .i64 f, .int .i64 t, .int .i64 S, .int .i64 F] 49) = w3 := ⟨_, rfl⟩
    rw [hw3] at B2 ⊢
    have M3 := Lib.hid (show Blk w3 w2.heap.size 49 [.string nm, .int .i64 len, .int .i64 rate, .int .i64 chN, .bool lp, .int .i64 f, .int .i64 t, .int .i64 S, .int .i64 F] by rw [← hw3]; exact Blk.new w2 _ [.string nm, .int .i64 len, .int .i64 rate, .int .i64 chN, .bool lp, .int .i64 f, .int .i64 t, .int .i64 S, .int .i64 F])
    clear hw3
    have m7 := fun (z : GW w3) => (show z.1.cell? ⟨w2.heap.size, 7, none⟩ = some (.int .i64 S) from blk_cells (M3.out.below z.2 M3.out.lt) 7)
    have m8 := fun (z : GW w3) => (show z.1.cell? ⟨w2.heap.size, 8, none⟩ = some (.int .i64 F) from blk_cells (M3.out.below z.2 M3.out.lt) 8)
    have x0 := fun (z : GW w3) => HXc.out z.1 (bnext B2.out z.2) 0 _ rfl
    have x1 := fun (z : GW w3) => HXc.out z.1 (bnext B2.out z.2) 1 _ rfl
    have HR3 := Lib.hid (fun (z : GW w3) => HRd.out z.1 (bnext B2.out z.2))
    refine wp_region_calm (by kernel_rfl) (by kernel_rfl) ?_
    repeat (go_big_quiet_step ((go_at_call 53; exact calm_same (HR3.out _))))
    refine wpQuiet_nil ?_
    intro w5 hw'
    have B5 := Lib.hid (gw_below hw')
    clear hw' m7 m8 x0 x1
    go_wp2
    refine bodyPost_ret (results_t3 Tryz.results27 _ _) rfl ?_
    exact ⟨by rw [← HFP.out]; rfl, bnext B2.out B5.out⟩
end Go.Proofs.YtoagdidkadfekaaGreatDoor

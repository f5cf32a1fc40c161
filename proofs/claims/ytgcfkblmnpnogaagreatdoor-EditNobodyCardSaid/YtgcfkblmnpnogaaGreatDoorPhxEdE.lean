/- EdE. Conditions: as each theorem states. -/
import Derived.Test.YtgcfkblmnpnogaaGreatDoorPhxEdD
import Derived.Test.YtgcfkblmnpnogaaGreatDoorPhxEdF
import Derived.Test.YtgcfkblmnpnogaaGreatDoorPh40

namespace Go.Proofs.YtgcfkblmnpnogaaGreatDoor
open Go.RowKit Go.Lib

theorem Remove_no (nm : ByteArray) (w : World) : Calls Tryz.prog 45 #[.pointer none, .string nm] w fun e w' => e = .returned (.tuple #[.slice none 0 0, .int .i64 16]) ∧ Below w.heap.size w w' := by
  have HS := Lib.hid (fun W => Size_no (.pointer none) W (.inl rfl))
  go_enter Tryz.func45, Tryz.ntmps45
  go_wp2_with (go_at_call 51; refine (HS.out _).mono ?_; rintro e w2 ⟨rfl, rfl⟩)
  refine bodyPost_ret (results_tmp2 Tryz.results45 _ _ _) rfl ?_
  exact ⟨rfl, Below.refl _ _⟩
theorem Rename_no (n1 n2 : ByteArray) (w : World) : Calls Tryz.prog 32 #[.pointer none, .string n1, .string n2] w fun e w' => e = .returned (.tuple #[.slice none 0 0, .int .i64 16]) ∧ Below w.heap.size w w' := by
  have HS := Lib.hid (fun W => Size_no (.pointer none) W (.inl rfl))
  go_enter Tryz.func32, Tryz.ntmps32
  go_wp2_with (go_at_call 51; refine (HS.out _).mono ?_; rintro e w2 ⟨rfl, rfl⟩)
  refine bodyPost_ret (results_tmp2 Tryz.results32 _ _ _) rfl ?_
  exact ⟨rfl, Below.refl _ _⟩
theorem Loop_no (nm : ByteArray) (f t : Int) (w : World) : Calls Tryz.prog 47 #[.pointer none, .string nm, .int .i64 f, .int .i64 t] w fun e w' => e = .returned (.tuple #[.slice none 0 0, .int .i64 16]) ∧ Below w.heap.size w w' := by
  have HS := Lib.hid (fun W => Size_no (.pointer none) W (.inl rfl))
  go_enter Tryz.func47, Tryz.ntmps47
  go_wp2_with (go_at_call 51; refine (HS.out _).mono ?_; rintro e w2 ⟨rfl, rfl⟩)
  refine bodyPost_ret (results_tmp2 Tryz.results47 _ _ _) rfl ?_
  exact ⟨rfl, Below.refl _ _⟩
theorem Join_no (v : Value) (w : World) : Calls Tryz.prog 46 #[.pointer none, v] w fun e w' => e = .returned (.tuple #[.slice none 0 0, .int .i64 16]) ∧ Below w.heap.size w w' := by
  have HS := Lib.hid (fun W => Size_no (.pointer none) W (.inl rfl))
  go_enter Tryz.func46, Tryz.ntmps46
  go_wp2_with (go_at_call 51; refine (HS.out _).mono ?_; rintro e w2 ⟨rfl, rfl⟩)
  refine bodyPost_ret (results_tmp2 Tryz.results46 _ _ _) rfl ?_
  exact ⟨rfl, Below.refl _ _⟩
theorem Add_no (nm : ByteArray) (rate : Int) (lp : Bool) (f t : Int) (a : Option Addr) (len cp : Nat) (w : World) : Calls Tryz.prog 60 #[.pointer none, .agg #[.string nm, .int .i64 rate, .bool lp, .int .i64 f, .int .i64 t, .slice a len cp]] w fun e w' => e = .returned (.tuple #[.slice none 0 0, .int .i64 16]) ∧ Below w.heap.size w w' := by
  have HS := Lib.hid (fun W => Size_no (.pointer none) W (.inl rfl))
  go_enter Tryz.func60, Tryz.ntmps60
  go_wp2_with (go_at_call 51; refine (HS.out _).mono ?_; rintro e w2 ⟨rfl, rfl⟩)
  refine bodyPost_ret (results_tmp2 Tryz.results60 _ _ _) rfl ?_
  exact ⟨rfl, bnew _ _⟩
theorem Names29_no (w : World) : Calls Tryz.prog 66 #[.pointer none] w fun e w' => e = .returned (.slice none 0 0) ∧ Below w.heap.size w w' := by
  have HD := Lib.hid (fun W => Dir_no (.pointer none) W (.inl rfl))
  go_enter Tryz.func66, Tryz.ntmps66
  go_wp2_with (go_at_call 24; refine (HD.out _).mono ?_; rintro e w2 ⟨rfl, rfl⟩)
  refine wp_loop_rounds 1 ?_
  rw [rounds_succ]
  go_wp2
  go_ret
  exact ⟨rfl, Below.refl _ _⟩
/-! A name that is there twice. -/
theorem map_eraseIdx {α β : Type} (f : α → β) : ∀ (L : List α) (i : Nat), (L.eraseIdx i).map f = (L.map f).eraseIdx i
  | [], _ => by simp
  | _ :: _, 0 => rfl
  | x :: r, i + 1 => by
    show f x :: (r.eraseIdx i).map f = f x :: (r.map f).eraseIdx i
    rw [map_eraseIdx f r i]
set_option maxRecDepth 100000 in
set_option maxHeartbeats 4000000 in
theorem Rename_twice {size : Nat} {D : List MetaV} {FR : List (List Nat)} (hC : CanB size D FR) (g : Nat) (name other : ByteArray) (w : World) (hB : BankAt w g (bldZ size D FR) size (bldDir size D))
    (h1 : atB (allZ size D FR D.length) name = true) (h2 : isName other = true) (h3 : atB ((allZ size D FR D.length).eraseIdx (atZ (allZ size D FR D.length) name)) other = true) :
    Calls Tryz.prog 32 #[.pointer (some ⟨g, 0, none⟩), .string name, .string other] w fun e w' => e = .returned (.tuple #[.slice none 0 0, .int .i64 11]) ∧ Below w.heap.size w w' := by
  have HSz := Lib.hid (BSize_any hB (by have := hC.lo; omega))
  have HAl := Lib.hid (all_any hC g w hB)
  have hlo := hC.lo
  have hzl := allZ_len size D FR D.length (Nat.le_refl _)
  have hmany := hC.many
  have hi : atZ (allZ size D FR D.length) name < (allZ size D FR D.length).length := by
    have := atZ_le (allZ size D FR D.length) name
    rcases Nat.lt_or_ge (atZ (allZ size D FR D.length) name) (allZ size D FR D.length).length with h | h
    · exact h
    · exfalso
      unfold atB at h1
      rw [List.getElem?_eq_none h] at h1
      cases h1
  rw [hzl] at hi
  have HAt := Lib.hid (fun L A c (nm : ByteArray) W (hL : List.length L ≤ 1000) hr => at_any L A c nm W hL hr)
  have HDl := Lib.hid (fun L A c i (W : World) (hi : i < List.length L) (hL : List.length L ≤ 1000) (hb : w.heap.size ≤ W.heap.size) h => del_any L A c i w.heap.size W hi hL hb h)
  have HIs := Lib.hid (fun W => IsName_any other W)
  rw [h2] at HIs
  generalize allZ size D FR D.length = Z at *
  obtain ⟨n, hn⟩ : ∃ n, D.length = n := ⟨_, rfl⟩
  rw [hn] at hzl hmany hi
  obtain ⟨i, hie⟩ : ∃ i, atZ Z name = i := ⟨_, rfl⟩
  rw [hie] at h3 hi
  have H1 := Lib.hid h1
  have H3 := Lib.hid h3
  have Hie := Lib.hid hie
  have t0 : ((size : Int) == 0) = false := beq_eq_false_iff_ne.2 (by omega)
  clear hB hC h1 h2 h3 hn hie
  go_enter Tryz.func32, Tryz.ntmps32
  go_wp2_with (first | (go_at_call 51; refine HSz.out.mono ?_; rintro e w2 ⟨rfl, rfl⟩) | (go_at_call 89; fail))
  refine HAl.out.mono ?_
  rintro e w1 ⟨A, c, L, rfl, hmap, hraws, hb1⟩
  have hLl : L.length = n := by rw [← hzl, ← hmap, List.length_map]
  have B1 := Lib.hid hb1
  have HR := Lib.hid hraws
  have HA1 := Lib.hid (HAt.out L A c name w1 (by omega) (Row.of_own hraws.own))
  rw [hmap, H1.out, Hie.out] at HA1
  have HD1 := Lib.hid (fun W (hW : Below w1.heap.size w1 W) => HDl.out L A c i W (by omega) (by omega) (Nat.le_trans B1.out.size hW.size) (HR.out.below hW))
  have hge : (L.eraseIdx i).map Prod.snd = Z.eraseIdx i := by rw [map_eraseIdx, hmap]
  have Hge := Lib.hid hge
  have Hmap := Lib.hid hmap
  obtain ⟨p, hp⟩ : ∃ p, L[i]? = some p := ⟨_, List.getElem?_eq_getElem (by omega)⟩
  obtain ⟨b, off, rfl, hbl, hcl⟩ := raw_at (Row.of_own hraws.own) hp
  have HEl := Lib.hid (show (L.eraseIdx i).length ≤ 1000 by rw [List.length_eraseIdx]; split <;> omega)
  rw [hLl] at HA1 HD1 ⊢
  have hpl := rawC_len p
  have HX := Lib.hid (fun (W : World) (hW : Below w1.heap.size w1 W) j v (hv : (rawC p)[j]? = some v) => (show W.cell? ⟨b, off + i * 10 + j, none⟩ = some v from (hW.cell (p := ⟨b, off + i * 10 + j, none⟩) hbl).trans (hcl j v hv)))
  have Hp1 := Lib.hid (rawC_one p)
  obtain ⟨pc, hpc⟩ : ∃ pc, rawC p = pc := ⟨_, rfl⟩
  rw [hpc] at hpl HX Hp1
  have HFl := Lib.hid (show (Tryz.prog.info? 149).map (·.size) = some pc.length by rw [hpl]; exact inf_raw)
  have Hps := Lib.hid (show pc.toArray.size = 10 by rw [List.size_toArray, hpl])
  have HFz := Lib.hid (show (Tryz.prog.info? 149).map (·.size) = some pc.toArray.size by rw [Hps.out]; exact inf_raw)
  have HO1 := Lib.hid (show pc.toArray.all (·.oneCell') = true by
    rw [Array.all_eq_true_iff_forall_mem]
    intro v hv
    exact Hp1.out v (by simpa using hv))
  clear hraws hb1 hmap hge hp hcl hpc hpl HAl HSz
  have u1 : (i : Int) < (n : Int) := by omega
  have u2 : (0 : Int) ≤ (i : Int) := by omega
  go_wp2_with (go_at_call 90; fail)
  refine HA1.out.mono ?_
  rintro e w2 ⟨rfl, hb2⟩
  have E2 := Lib.hid hb2
  have HX2 := Lib.hid (HX.out w2 hb2)
  clear hb2 HA1 HX
  go_wp2_with (first | (go_at_call 34; refine (HIs.out _).mono ?_; rintro e w' ⟨rfl, rfl⟩) | (refine wpList_load_part_w rfl 149 (.tmp 32) rfl b (off + i * 10) rfl pc _ HX2.out Tryz.underlying149 rfl HFl.out ?_) | (refine wpList_store_row_w rfl 149 (.tmp 11) (.tmp 33) rfl w2.heap.size rfl _ _ pc.toArray rfl (heap_alloc_new w2 _) HFz.out (by rw [Hps.out]; rfl) HO1.out ?_; rw [World.setRow_alloc_new]) | (go_at_call 91; fail))
  refine (HD1.out _ (bnext E2.out (bnew w2 _))).mono ?_
  rintro e w4 ⟨A4, c4, rfl, hr4, hb4⟩
  have E4 := Lib.hid (show Below w.heap.size w w4 from ((bnext (bnext B1.out E2.out) (bnew w2 (.cells pc.toArray 149)))).trans hb4)
  have HA4 := Lib.hid (HAt.out (L.eraseIdx i) A4 c4 other w4 HEl.out (Row.of_own hr4.own))
  rw [Hge.out, H3.out] at HA4
  generalize atZ (Z.eraseIdx i) other = k at *
  clear hr4 hb4 HD1 HX2
  go_wp2_with (go_at_call 90; fail)
  refine HA4.out.mono ?_
  rintro e w5 ⟨rfl, hb5⟩
  go_wp2
  refine bodyPost_ret (results_tmp2 Tryz.results32 _ _ _) rfl ?_
  exact ⟨rfl, bnext E4.out hb5⟩
/-! Law 29's made. -/
/-- what made leaves -/
def MadeP (w : World) (ss : List SampV) (e : Ending) (w' : World) : Prop :=
  Below w.heap.size w w' ∧ ((packE 24 ss ≠ 0 ∧ e = .returned (.pointer none)) ∨ (packE 24 ss = 0 ∧ CanP 24 (sortS ss) ∧ ∃ g, e = .returned (.pointer (some ⟨g, 0, none⟩)) ∧ BankAt w' g (packZ 24 (sortS ss)) 24 (packDir 24 (sortS ss)) ∧ w.heap.size ≤ g))
set_option maxRecDepth 100000 in
theorem made29_core (S : List SampV → Prop) (v : Value) (w : World)
    (hF : Calls Tryz.prog 48 #[v] w fun e w' => ∃ A c M, e = .returned (.slice A (List.length M) c) ∧ S (List.map Prod.snd M) ∧ List.length M ≤ 8 ∧ (A = none → c = 0) ∧ SampsAt w' w'.heap.size A M ∧ (∀ p ∈ M, p.2.small) ∧ Below w.heap.size w w') :
    Calls Tryz.prog 30 #[v] w fun e w' => ∃ ss, S ss ∧ MadeP w ss e w' := by
  have HF := Lib.hid hF
  clear hF
  go_enter Tryz.func30, Tryz.ntmps30
  go_wp2_with (go_at_call 48; fail)
  refine HF.out.mono ?_
  rintro e w1 ⟨A, c, M, rfl, hS, h8, hn, hs, hsm, hb1⟩
  have HP := Lib.hid (Pack_any 24 M A c w1 h8 hn hs hsm)
  have B1 := Lib.hid hb1
  have HS := Lib.hid hS
  generalize List.map Prod.snd M = ss at *
  generalize M.length = m at *
  unfold PackP at HP
  clear hS h8 hn hs hsm hb1 HF
  go_wp2_with (go_at_call 49; fail)
  refine HP.out.mono ?_
  rintro e w2 ⟨hb2, ⟨hE, rfl⟩ | ⟨hE, sz, g, h24, hC, hg, hby, rfl⟩⟩
  · have B2 := Lib.hid (bnext B1.out hb2)
    have HE := Lib.hid hE
    generalize hpe : packE 24 ss = E at *
    have Hpe := Lib.hid hpe
    have t1 : (E != 0) = true := by rw [bne_iff_ne]; exact hE
    clear hE hpe hb2
    go_wp2
    go_ret
    exact ⟨ss, HS.out, B2.out, .inl ⟨by rw [Hpe.out]; exact HE.out, rfl⟩⟩
  · obtain rfl : sz = 24 := by omega
    have B2 := Lib.hid (bnext B1.out hb2)
    have HC := Lib.hid hC
    have HE := Lib.hid hE
    have HPa := Lib.hid (Parse_packed hC g w2 hby)
    clear hE hC h24 hg hby hb2
    go_wp2_with (go_at_call 19; fail)
    refine HPa.out.mono ?_
    rintro e w3 ⟨x, rfl, hx, hB, hb3⟩
    have HB := Lib.hid hB
    have B3 := Lib.hid (bnext B2.out hb3)
    have Hx := Lib.hid (show w.heap.size ≤ x from Nat.le_trans B2.out.size hx)
    clear hB hb3 hx HPa
    go_wp2
    go_ret
    exact ⟨ss, HS.out, B3.out, .inr ⟨HE.out, HC.out, x, rfl, HB.out, Hx.out⟩⟩
theorem made29_ex (L : List (HSamp × SampV)) (A : Option Addr) (cap : Nat) (w : World) (hs : SampsAt w w.heap.size A L) (h8 : L.length ≤ 8) (hsm : ∀ p ∈ L, p.2.small) :
    Calls Tryz.prog 30 #[.slice A L.length cap] w (MadeP w (L.map Prod.snd)) := by
  refine (made29_core (fun ss => ss = L.map Prod.snd) _ w ((Few15_ex L A cap w hs h8 (fun p hp => hsm p hp)).mono ?_)).mono ?_
  · rintro e w' ⟨A', c, M, he, hm, _, _, hn, hs', hb⟩
    refine ⟨A', c, M, he, hm, ?_, hn, hs', fun p hp => ?_, hb⟩
    · have := congrArg List.length hm
      rw [List.length_map, List.length_map] at this
      omega
    · have : p.2 ∈ L.map Prod.snd := by rw [← hm]; exact List.mem_map.2 ⟨p, hp, rfl⟩
      obtain ⟨q, hq, he⟩ := List.mem_map.1 this
      rw [← he]; exact hsm q hq
  · rintro e w' ⟨ss, rfl, h⟩
    exact h
end Go.Proofs.YtgcfkblmnpnogaaGreatDoor

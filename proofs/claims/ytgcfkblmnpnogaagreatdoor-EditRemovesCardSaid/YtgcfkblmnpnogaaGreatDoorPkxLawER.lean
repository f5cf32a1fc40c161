/- LawER. Conditions: as each theorem states. -/
import Derived.Test.YtgcfkblmnpnogaaGreatDoorPk50
import Derived.Test.YtgcfkblmnpnogaaGreatDoorPkxEdX

namespace Go.Proofs.YtgcfkblmnpnogaaGreatDoor
open Go.RowKit Go.Lib

set_option maxRecDepth 100000 in
set_option maxHeartbeats 4000000 in
theorem EditRemoves_walk (L : List (HSamp × SampV)) (A : Option Addr) (cap : Nat) (name : ByteArray) (w : World) (hs : SampsAt w w.heap.size A L) (hnm : ∀ p ∈ L, NameFits p) :
    Calls Tryz.prog 7 #[.slice A L.length cap, .string name] w fun e w' => e = .returned (.bool true) ∧ Below w.heap.size w w' := by
  have HM := Lib.hid (made29_law L A cap w hs hnm)
  have HAw := Lib.hid (fun W => awake29_any W)
  clear hs hnm
  unfold MadeB at HM
  go_enter Tryz.func7, Tryz.ntmps7
  go_wp2_with (go_at_call 30; fail)
  refine HM.out.mono ?_
  rintro e w1 ⟨hb1, rfl | ⟨D, FR, g, hC, hFR, rfl, hB, hg⟩⟩
  · have E1 := Lib.hid hb1
    clear hb1 HM
    go_wp2_with (go_at_call 31; fail)
    refine (HAw.out _).mono ?_
    rintro e w2 ⟨rfl, hb2⟩
    go_wp2
    go_ret
    exact ⟨rfl, bnext E1.out hb2⟩
  · have E1 := Lib.hid hb1
    have HRe := Lib.hid (Remove_any hC hFR g name w1 hB)
    have HBk := Lib.hid (bankOf_built hC hB)
    have HRs := Lib.hid (hC.raws hFR)
    have hlen := allZ_len 24 D FR D.length (Nat.le_refl _)
    generalize allZ 24 D FR D.length = Z at *
    generalize bldZ 24 D FR = bs at *
    have HFi := Lib.hid (fun W (hW : Below w1.heap.size w1 W) => (show Calls Tryz.prog 33 #[.pointer (some ⟨g, 0, none⟩), .string name] W (fun e w' => (∃ k : Nat, e = .returned (.tuple #[.int .i64 k, .bool (atB Z name)])) ∧ Below W.heap.size W w') from by
      refine (Find_any g 24 bs (dOf Z) name W (HBk.out.at_.later hW) (by omega) HBk.out.fit.many (ascN_of HBk.out.asc)).mono ?_
      rintro e w' ⟨rfl, hb⟩
      rw [(at_find HBk.out.asc name).1]
      exact ⟨⟨_, rfl⟩, hb⟩))
    clear hb1 HM hC hFR hB hg
    go_wp2_with (go_at_call 45; fail)
    refine HRe.out.mono ?_
    rintro e w2 ⟨hno, hyes⟩
    cases hat : atB Z name with
    | false =>
      obtain ⟨rfl, hb2⟩ := hno hat
      have E2 := Lib.hid (bnext E1.out hb2)
      have HF2 := Lib.hid (HFi.out w2 hb2)
      rw [hat] at HF2
      clear hno hyes hb2 HFi HRe
      go_wp2_with (go_at_call 33; fail)
      refine HF2.out.mono ?_
      rintro e w3 ⟨⟨k, rfl⟩, hb3⟩
      have E3 := Lib.hid (bnext E2.out hb3)
      clear hb3 HF2
      go_wp2_with (go_at_call 31; fail)
      refine (HAw.out _).mono ?_
      rintro e w4 ⟨rfl, hb4⟩
      go_wp2
      go_ret
      exact ⟨rfl, bnext E3.out hb4⟩
    | true =>
      obtain ⟨hY, g2, rfl, hg2, hby, hb2⟩ := hyes hat
      have E2 := Lib.hid (bnext E1.out hb2)
      have HF2 := Lib.hid (HFi.out w2 hb2)
      rw [hat] at HF2
      obtain ⟨r, hr, hrn⟩ := at_of hat
      have HK2 := Lib.hid (fun W (hW : Below w2.heap.size w2 W) => kept_of (HBk.out.later (bnext hb2 hW)) hY g2 (hkeep hby hW) name 0 (fun q hq hne => mem_erase hr hq (by rw [hrn]; exact hne)) (by
        have h1 := others_at HBk.out.asc hr
        rw [hrn] at h1
        omega))
      obtain ⟨N, hN⟩ : ∃ N, bldN 24 (dOf (Z.eraseIdx (atZ Z name))) = N := ⟨_, rfl⟩
      rw [hN] at HK2 ⊢
      clear hno hyes hb2 HFi HRe hY hg2 hby hr hrn hN
      go_wp2_with (go_at_call 33; fail)
      refine HF2.out.mono ?_
      rintro e w3 ⟨⟨k, rfl⟩, hb3⟩
      have E3 := Lib.hid (bnext E2.out hb3)
      have HK3 := Lib.hid (HK2.out w3 hb3)
      clear hb3 HF2 HK2
      go_wp2_with (go_at_call 35; fail)
      refine HK3.out.mono ?_
      rintro e w4 ⟨rfl, hb4⟩
      have E4 := Lib.hid (bnext E3.out hb4)
      clear hb4 HK3
      go_wp2_with (go_at_call 31; fail)
      refine (HAw.out _).mono ?_
      rintro e w5 ⟨rfl, hb5⟩
      go_wp2
      go_ret
      exact ⟨rfl, bnext E4.out hb5⟩
theorem EditRemoves_law (W : World) (v0 v1 : Value) (a0 : Arg W (.slice 6 sampTy) v0) (a1 : Arg W (.str) v1) :
    Calls Tryz.prog 7 #[v0, v1] W fun e w' => e = .returned (.bool true) ∧ Below W.heap.size W w' := by
  obtain ⟨L, A, cap, rfl, _, _, _, hs, hn⟩ := samps_arg a0
  obtain ⟨nm, h1, _⟩ := a1
  obtain rfl : v1 = .string nm := by simpa using h1
  exact EditRemoves_walk L A cap nm W hs hn
end Go.Proofs.YtgcfkblmnpnogaaGreatDoor

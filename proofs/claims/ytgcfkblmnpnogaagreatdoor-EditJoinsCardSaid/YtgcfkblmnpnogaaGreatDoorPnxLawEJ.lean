/- LawEJ. Conditions: as each theorem states. -/
import Derived.Test.YtgcfkblmnpnogaaGreatDoorPnxEdT
import Derived.Test.YtgcfkblmnpnogaaGreatDoorPnxEdX
namespace Go.Proofs.YtgcfkblmnpnogaaGreatDoor
open Go.RowKit Go.Lib
set_option maxRecDepth 100000 in
set_option maxHeartbeats 16000000 in
theorem EditJoins_walk (L1 L2 : List (HSamp × SampV)) (A1 A2 : Option Addr) (cap1 cap2 : Nat) (w : World) (hs1 : SampsAt w w.heap.size A1 L1) (hn1 : ∀ p ∈ L1, NameFits p) (hs2 : SampsAt w w.heap.size A2 L2) (hn2 : ∀ p ∈ L2, NameFits p) :
  Calls Tryz.prog 8 #[.slice A1 L1.length cap1, .slice A2 L2.length cap2] w fun e w' => e = .returned (.bool true) ∧ Below w.heap.size w w' := by
 have HM1 := hid (made29_small L1 A1 cap1 w hs1 hn1)
 have HM2 := hid (fun W (hW : Below w.heap.size w W) => made29_small L2 A2 cap2 W (hs2.later hW) hn2)
 have HAw := hid (fun W => awake29_any W)
 clear hs1 hn1 hs2 hn2
 unfold MadeS at HM1 HM2
 generalize L1.length = n1 at *
 generalize L2.length = n2 at *
 go_enter Tryz.func8, Tryz.ntmps8
 go_wp2_with (go_at_call 30; fail)
 refine HM1.out.mono ?_
 rintro e w1 ⟨hb1, rfl | ⟨D1, FR1, g1, hC1, h81, hF1, rfl, hA1, -⟩⟩
 ·have E1 := hid hb1
  have HM := hid (HM2.out w1 hb1)
  clear hb1 HM1 HM2
  go_wp2_with (go_at_call 30; fail)
  refine HM.out.mono ?_
  rintro e w2 ⟨hb2, rfl | ⟨D2, FR2, g2, -, -, -, rfl, -, -⟩⟩
  ·have E2 := hid (bnext E1.out hb2)
   clear hb2 HM
   go_wp2_with (go_at_call 31; fail)
   refine (HAw.out _).mono ?_
   rintro e w3 ⟨rfl, hb3⟩
   go_wp2
   go_ret
   exact ⟨rfl, bnext E2.out hb3⟩
  ·have E2 := hid (bnext E1.out hb2)
   clear hb2 HM
   go_wp2_with (go_at_call 31; fail)
   refine (HAw.out _).mono ?_
   rintro e w3 ⟨rfl, hb3⟩
   go_wp2
   go_ret
   exact ⟨rfl, bnext E2.out hb3⟩
 ·have E1 := hid hb1
  have HM := hid (HM2.out w1 hb1)
  have HC1 := hid hC1
  have HA1 := hid hA1
  clear hb1 HM1 HM2 hC1 hA1
  go_wp2_with (go_at_call 30; fail)
  refine HM.out.mono ?_
  rintro e w2 ⟨hb2, rfl | ⟨D2, FR2, g2, hC2, h82, hF2, rfl, hA2, -⟩⟩
  ·have E2 := hid (bnext E1.out hb2)
   clear hb2 HM HC1 HA1
   go_wp2_with (go_at_call 31; fail)
   refine (HAw.out _).mono ?_
   rintro e w3 ⟨rfl, hb3⟩
   go_wp2
   go_ret
   exact ⟨rfl, bnext E2.out hb3⟩
  ·have E2 := hid (bnext E1.out hb2)
   have hC1 := HC1.out
   have hA1 := HA1.out.later hb2
   have HJ := hid (Join29_any hC1 hC2 (by omega) (by omega) g1 g2 w2 hA1 hA2)
   have HK1 := hid (bankOf_built hC1 hA1)
   have HK2 := hid (bankOf_built hC2 hA2)
   have hR1 := hC1.raws (by omega)
   have hR2 := hC2.raws (by omega)
   have hf1 := fOf_all_len hC1
   have hf2 := fOf_all_len hC2
   have hz1 := allZ_len 24 D1 FR1 D1.length (Nat.le_refl _)
   have hz2 := allZ_len 24 D2 FR2 D2.length (Nat.le_refl _)
   clear HC1 HA1 hA1 hA2 hb2 HM hC1 hC2
   generalize allZ 24 D1 FR1 D1.length = Z at *
   generalize allZ 24 D2 FR2 D2.length = Y at *
   generalize bldZ 24 D1 FR1 = bs1 at *
   generalize bldZ 24 D2 FR2 = bs2 at *
   have hm : Z.length + Y.length ≤ 64 := by omega
   have hf : (fOf Z).length + (fOf Y).length ≤ 30000 := by omega
   have HNw := hid (fun i y (h1 : Y[i]? = some y) (h2 : atB Z y.m.name = false) => bothTo_new hR1 hR2 hm hf h1 h2)
   have HLn := hid (bothTo_len hR1 hR2 hm hf Y.length (Nat.le_refl _))
   have HOd := hid (fun r (h : r ∈ Z) => bothTo_old (Y := Y) h Y.length)
   have HNs := hid (fun m y (h : Y[m]? = some y) => newTo_succ (Z := Z) h)
   have HNl := hid (fun m => newTo_le (Z := Z) (Y := Y) m)
   have HOn := hid (others_none hR1)
   obtain ⟨J, hJ⟩ : ∃ J, bothTo Z Y Y.length = J := ⟨_, rfl⟩
   rw [hJ] at HJ HNw HLn HOd
   obtain ⟨n, hn⟩ : ∃ n, Y.length = n := ⟨_, rfl⟩
   rw [hn] at HLn
   have hn64 : n ≤ 64 := by omega
   have Hn := hid hn
   clear hR1 hR2 hf1 hf2 hz1 hz2 hm hf hJ hn h81 h82 hF1 hF2
   go_wp2_with (go_at_call 46; fail)
   refine HJ.out.mono ?_
   rintro e w3 ⟨hJo, g3, rfl, hg3, hby, hb3⟩
   have C3 := hid hb3
   have E3 := hid (bnext E2.out hb3)
   have HPa := hid (Parse_built hJo.can g3 w3 hby)
   have HKe := hid (fun W (hW : Below w3.heap.size w3 W) => kept_of (HK1.out.later (bnext C3.out hW)) hJo g3 (hkeep hby hW) ⟨#[]⟩ (newTo Z Y n) (fun r hr _ => HOd.out r hr) (by rw [HOn.out, HLn.out]; omega))
   have HJo := hid hJo
   obtain ⟨N, hN⟩ : ∃ N, bldN 24 (dOf J) = N := ⟨_, rfl⟩
   rw [hN] at HPa HKe ⊢
   clear hJo hby hb3 hg3 hN HJ
   go_wp2_with (go_at_call 19; fail)
   refine HPa.out.mono ?_
   rintro e w4 ⟨x, rfl, -, hBx, hb4⟩
   have HX := hid (bankOf_built HJo.out.can hBx)
   have C4 := hid (bnext C3.out hb4)
   have D4 := hid hb4
   have E4 := hid (bnext E3.out hb4)
   have HD := hid (BDir_any (HK2.out.at_.later C4.out) (by omega) HK2.out.fit.many)
   rw [dOf_len, Hn.out] at HD
   clear hBx hb4 HPa
   go_wp2_with (go_at_call 24; fail)
   refine HD.out.mono ?_
   rintro e w5 ⟨Ad, cd, rfl, _, _, _, hown, hb5⟩
   have E5 := hid (bnext E4.out hb5)
   have B5 := hid hb5
   have RD := hid (Row.of_own hown)
   clear hown hb5 HD
   go_wp2_with fail
   go_loopw [12, 13] (fun c i wr => ∃ (m : Nat), m ≤ n ∧ i = .int .i64 m ∧ c = .int .i64 ((newTo Z Y m : Nat) : Int) ∧ Below w5.heap.size w5 wr) (fun _ i _ => n - (intOf i).toNat)
   case atStart => exact ⟨0, by omega, rfl, rfl, Below.refl _ _⟩
   case round =>
    obtain ⟨m, hm, rfl, rfl, hbel⟩ := hrel
    have Hbel := hid hbel
    clear hbel
    obtain ⟨wa, rfl⟩ : ∃ wa, wa = wr := ⟨_, rfl⟩
    have hnl := HNl.out m
    by_cases hlt : m < n
    ·have t1 : (m : Int) < (n : Int) := by omega
     have t2 : (0 : Int) ≤ (m : Int) := by omega
     obtain ⟨r, hr⟩ := list_get (k := m) Hn.out hlt
     have Hr := hid hr
     have HS1 := hid (HNs.out m r hr)
     obtain ⟨bD, oD, rfl, hbD, hcD⟩ := meta_at RD.out (dOf_get hr)
     have HXD := hid (fun W (hW : Below w5.heap.size w5 W) j v (hv : r.m.cells[j]? = some v) => (show W.cell? ⟨bD, oD + m * 9 + j, none⟩ = some v from (hW.cell (p := ⟨bD, oD + m * 9 + j, none⟩) hbD).trans (hcD j v hv)))
     have x0 : wa.cell? ⟨bD, oD + m * 9, none⟩ = some (.string r.m.name) := HXD.out wa Hbel.out 0 _ rfl
     obtain ⟨M, hM⟩ : ∃ M, newTo Z Y m = M := ⟨_, rfl⟩
     rw [hM] at hnl HS1 ⊢
     have HF1 := hid (show Calls Tryz.prog 33 #[.pointer (some ⟨g1, 0, none⟩), .string r.m.name] wa (fun e w' => (∃ k : Nat, e = .returned (.tuple #[.int .i64 k, .bool (atB Z r.m.name)])) ∧ Below wa.heap.size wa w') from by
      refine (Find_any g1 24 bs1 (dOf Z) r.m.name wa (HK1.out.at_.later (bnext (bnext C4.out B5.out) Hbel.out)) (by omega) HK1.out.fit.many (ascN_of HK1.out.asc)).mono ?_
      rintro e w' ⟨rfl, hb⟩
      rw [(at_find HK1.out.asc r.m.name).1]
      exact ⟨⟨_, rfl⟩, hb⟩)
     cases hno : atB Z r.m.name with
     | true =>
      have Hos := hid (show newTo Z Y (m + 1) = M by rw [HS1.out, if_pos hno]; rfl)
      rw [hno] at HF1
      clear hr hbD hcD hno hM
      go_wp2_with (go_at_call 33; fail)
      refine HF1.out.mono ?_
      rintro e w6 ⟨⟨k1, rfl⟩, hb6⟩
      have E6 := hid (bnext Hbel.out hb6)
      clear hb6 HF1
      go_wp2_with fail
      go_roundw
      case rel => exact ⟨m + 1, by omega, by go_num, by rw [Hos.out], E6.out⟩
      case measure => first | (simp [intOf]; done) | (simp [intOf]; omega)
     | false =>
      have Hos := hid (show newTo Z Y (m + 1) = M + 1 by rw [HS1.out, if_neg (by rw [hno]; exact Bool.false_ne_true)])
      rw [hno] at HF1
      obtain ⟨k, s, hs, hp, hfs⟩ := stays HJo.out (HNw.out m r hr hno)
      have hsn : s.m.name = r.m.name := (congrArg MetaV.name hp : (plainM s.m).name = (plainM r.m).name)
      have hsl : s.m.length = r.m.length := (congrArg MetaV.length hp : (plainM s.m).length = (plainM r.m).length)
      have hsc : s.m.channels = r.m.channels := (congrArg MetaV.channels hp : (plainM s.m).channels = (plainM r.m).channels)
      have hfd := find_name (ascN_of HX.out.asc) (dOf_get hs)
      rw [hsn] at hfd
      have HFi := hid (fun W (hW : Below w4.heap.size w4 W) => (show Calls Tryz.prog 33 #[.pointer (some ⟨x, 0, none⟩), .string r.m.name] W (fun e w' => e = .returned (.tuple #[.int .i64 (k : Nat), .bool true]) ∧ Below W.heap.size W w') from by
       have h := Find_any x 24 (bldZ 24 (dOf J) (fOf J)) (dOf (allZ 24 (dOf J) (fOf J) (dOf J).length)) r.m.name W (HX.out.at_.later hW) (by omega) HX.out.fit.many (ascN_of HX.out.asc)
       rwa [hfd.1, hfd.2] at h))
      have HMe := hid (fun W (hW : Below w4.heap.size w4 W) => (show Calls Tryz.prog 36 #[.pointer (some ⟨x, 0, none⟩), .int .i64 (k : Nat)] W (fun e w' => e = .returned (.tuple #[.agg s.m.cells.toArray, .int .i64 0]) ∧ Below W.heap.size W w') from by
       have h := BMeta_any x 24 (bldZ 24 (dOf J) (fOf J)) (dOf (allZ 24 (dOf J) (fOf J) (dOf J).length)) k W (HX.out.at_.later hW) (by omega) (by have := HX.out.fit.many; omega)
       rwa [(meta_i (dOf_get hs)).1, (meta_i (dOf_get hs)).2] at h))
      have HSm := hid (fun W (hW : Below w4.heap.size w4 W) => same_any (HK2.out.later (bnext C4.out hW)) (HX.out.later hW) hr hs hsl hsc hfs)
      have HEq := hid (eq_meta (plainM r.m))
      have hk64 : k ≤ 64 := by
       have h1 := (List.getElem?_eq_some_iff.1 hs).1
       have h2 := HX.out.fit.many
       rw [dOf_len] at h2
       omega
      obtain ⟨⟨qn, ql, qr, qc, qp, qf, qt, rs, ro⟩, fr⟩ := r
      obtain ⟨⟨rn, rl, rr, rc, rp, rf, rt, ss, so⟩, fs⟩ := s
      simp only [plainM, MetaV.mk.injEq] at hp
      obtain ⟨rfl, rfl, rfl, rfl, rfl, rfl, rfl, _, _⟩ := hp
      simp only [MetaV.cells] at HMe HXD
      simp only [plainM, MetaV.cells] at HEq
      simp only at HF1 HFi x0
      have HPs := hid (fun W => plain29_any rn rl rr rc rp rf rt ss so W)
      have HPr := hid (fun W => plain29_any rn rl rr rc rp rf rt rs ro W)
      have Hbb := hid Hbel.out
      clear hr hbD hcD hs hfs hsn hsl hsc hfd hM hno HS1 Hr
      go_wp2_with (go_at_call 33; fail)
      refine HF1.out.mono ?_
      rintro e w6 ⟨⟨k1, rfl⟩, hb6⟩
      have E6 := hid (bnext Hbb.out hb6)
      have HF6 := hid (HFi.out w6 (bnext B5.out E6.out))
      have x6 : w6.cell? ⟨bD, oD + m * 9, none⟩ = some (.string rn) := HXD.out w6 E6.out 0 _ rfl
      clear hb6 HF1 HFi x0
      go_wp2_with (go_at_call 33; fail)
      refine HF6.out.mono ?_
      rintro e w7 ⟨rfl, hb7⟩
      have E7 := hid (bnext E6.out hb7)
      have HM7 := hid (HMe.out w7 (bnext B5.out E7.out))
      clear hb7 HF6 HMe x6
      go_wp2_with (go_at_call 36; fail)
      refine HM7.out.mono ?_
      rintro e w8 ⟨rfl, hb8⟩
      obtain ⟨w9, hw9⟩ : ∃ w9, w8.alloc (.cells #[.string rn, .int .i64 rl, .int .i64 rr, .int .i64 rc, .bool rp, .int .i64 rf, .int .i64 rt, .int .i64 ss, .int .i64 so] 27) = w9 := ⟨_, rfl⟩
      have E9 := hid (show Below w5.heap.size w5 w9 by rw [← hw9]; exact bnext (bnext E7.out hb8) (bnew w8 _))
      have HN9 := hid (show w9.heap[w8.heap.size]? = some (.cells #[.string rn, .int .i64 rl, .int .i64 rr, .int .i64 rc, .bool rp, .int .i64 rf, .int .i64 rt, .int .i64 ss, .int .i64 so] 27 (0, 0)) by rw [← hw9]; exact heap_alloc_new w8 _)
      clear hb8 HM7
      have HFm := hid (show (Tryz.prog.info? 27).map (·.size) = some 9 by kernel_rfl)
      have x5 : ∀ (z : GW w9), z.1.heap[w8.heap.size]? = some (.cells #[.string rn, .int .i64 rl, .int .i64 rr, .int .i64 rc, .bool rp, .int .i64 rf, .int .i64 rt, .int .i64 ss, .int .i64 so] 27 (0, 0)) := fun z => hkeep HN9.out z.2
      have y5 := hid (fun W (hW : ∃ z : GW w9, W = z.1) => HXD.out W (bnext E9.out (gw_below hW)))
      go_wp2_with fail
      refine wp_region_calm (by kernel_rfl) (by kernel_rfl) ?_
      repeat (first | (go_big_quiet_want; refine quiet_load_row 27 (.tmp 18) rfl w8.heap.size rfl _ #[.string rn, .int .i64 rl, .int .i64 rr, .int .i64 rc, .bool rp, .int .i64 rf, .int .i64 rt, .int .i64 ss, .int .i64 so] _ _ (by rintro _ ⟨z, rfl⟩; exact x5 z) Tryz.underlying27 rfl HFm.out ?_; go_simp; go_big_quiet_on) | (go_big_quiet_want; refine quiet_load_part 27 (.tmp 90) rfl bD (oD + m * 9) rfl [.string rn, .int .i64 rl, .int .i64 rr, .int .i64 rc, .bool rp, .int .i64 rf, .int .i64 rt, .int .i64 rs, .int .i64 ro] _ y5.out Tryz.underlying27 rfl HFm.out ?_; go_simp; go_big_quiet_on) | go_big_quiet_step ((first | (go_at_call 37; first | exact calm_call (HPs.out _) | exact calm_call (HPr.out _)) | (go_at_call 38; rename_i z; exact calm_call (HSm.out z.1 (bnext (bnext B5.out E9.out) z.2))))))
      refine wpQuiet_nil ?_
      intro wb hw'
      have E10 := hid (bnext E9.out (gw_below hw'))
      clear hw' x5 y5
      go_wp2_with fail
      go_roundw
      case rel => exact ⟨m + 1, by omega, by go_num, congrArg (fun z : Nat => Value.int .i64 (z : Int)) (show M + 1 = _ by rw [Hos.out]), E10.out⟩
      case measure => first | (simp [intOf]; done) | (simp [intOf]; omega)
    ·have hmn : m = n := by omega
     subst hmn
     have t1 : ¬ ((m : Int) < (m : Int)) := by omega
     have HK := hid (HKe.out wa (bnext (bnext D4.out B5.out) Hbel.out))
     obtain ⟨M, hM⟩ : ∃ M, newTo Z Y m = M := ⟨_, rfl⟩
     rw [hM] at HK hnl ⊢
     have Hbb := hid Hbel.out
     clear HKe hM
     go_wp2_with (go_at_call 35; fail)
     refine HK.out.mono ?_
     rintro e w6 ⟨rfl, hb6⟩
     have E6 := hid (bnext (bnext E5.out Hbb.out) hb6)
     clear hb6 HK
     go_wp2_with (go_at_call 31; fail)
     refine (HAw.out _).mono ?_
     rintro e w7 ⟨rfl, hb7⟩
     go_wp2
     go_ret
     exact ⟨rfl, bnext E6.out hb7⟩
theorem EditJoins_law (W : World) (v0 v1 : Value) (a0 : Arg W (.slice 6 sampTy) v0) (a1 : Arg W (.slice 6 sampTy) v1) :
  Calls Tryz.prog 8 #[v0, v1] W fun e w' => e = .returned (.bool true) ∧ Below W.heap.size W w' := by
 obtain ⟨L1, A1, cap1, rfl, _, _, _, hs1, hn1⟩ := samps_arg a0
 obtain ⟨L2, A2, cap2, rfl, _, _, _, hs2, hn2⟩ := samps_arg a1
 exact EditJoins_walk L1 L2 A1 A2 cap1 cap2 W hs1 hn1 hs2 hn2
end Go.Proofs.YtgcfkblmnpnogaaGreatDoor

/- LawBF. Conditions: as each theorem states. -/
import Derived.Test.YtoagdidkadfekaaGreatDoorPdxParT
import Derived.Test.YtoagdidkadfekaaGreatDoorPdxParS
import Derived.Test.YtoagdidkadfekaaGreatDoorPdxParO
import Derived.Test.YtoagdidkadfekaaGreatDoorPd37
import Derived.Test.YtoagdidkadfekaaGreatDoorPd16

namespace Go.Proofs.YtoagdidkadfekaaGreatDoor
open Go.RowKit Go.Lib

theorem rdF_tones (B : List Nat) : (rdF B).tones.length ≤ 2 := by
  unfold rdF
  split
  · rename_i h
    have : RightF (frameR B) := by
      unfold rdErr at h
      split at h
      · rename_i h1; exact absurd h h1
      · split at h
        · assumption
        · cases h
    exact this.tlen
  · exact Nat.zero_le _
/-- a slice of bytes and an error -/
def BytesQ (w : World) (size : Nat) (ys : List Nat) (E : Int) (e : Ending) (w' : World) : Prop :=
  ∃ A k c, e = .returned (.tuple #[.slice A k c, .int .i64 E]) ∧ Below w.heap.size w w' ∧ (E = 0 → k = size ∧ size ≤ c ∧ c ≤ 9223372036854775807 ∧ Row w' w'.heap.size A (u8s ys))
theorem bytesQ {w : World} {D : List MetaV} {bs : List Nat} {size : Nat} {i c b : Int} {e : Ending} {w' : World} (h : BytesP w D bs size i c b e w') : BytesQ w size (subB bs (whereAt D size i c b).toNat size) (whereE D i c b) e w' := by
  obtain ⟨hb, ⟨h1, rfl⟩ | ⟨h1, A, c', rfl, h2, h3, _, h5⟩⟩ := h
  · exact ⟨none, 0, 0, rfl, hb, fun h => absurd h h1⟩
  · exact ⟨A, size, c', by rw [h1], hb, fun _ => ⟨rfl, h2, h3, h5⟩⟩
set_option maxRecDepth 100000 in
set_option maxHeartbeats 16000000 in
theorem BankFrames_walk (size i c b : Int) (L0 : List (HSamp × SampV)) (A0 : Option Addr) (cap0 : Nat) (B0 : List Nat) (Ab : Option Addr) (capb : Nat) (w : World) (hs0 : SampsAt w w.heap.size A0 L0) (hnm : ∀ p ∈ L0, NameFits p)
    (hlb : B0.length ≤ capb) (hcb : capb ≤ 9223372036854775807) (hb0 : ∀ x ∈ B0, x < 256) (hrb0 : Row w w.heap.size Ab (u8s B0)) :
    Calls Tryz.prog 6 #[.int .i64 size, .slice A0 L0.length cap0, .int .i64 i, .int .i64 c, .int .i64 b, .slice Ab B0.length capb] w fun e w' => e = .returned (.bool true) ∧ Below w.heap.size w w' := by
  have HF := Lib.hid (Few15_any L0 A0 cap0 w hs0 hnm)
  have HAw := Lib.hid (fun W => awake15_any W)
  obtain ⟨B, hBB⟩ : ∃ B, B0.take 200 = B := ⟨_, rfl⟩
  have hrb := (show Row w w.heap.size Ab (u8s B) by rw [← hBB, take_u8s]; exact take_row hrb0 200)
  have hb : Byt B := fun x hx => hb0 x (List.mem_of_mem_take (by rw [hBB]; exact hx))
  obtain ⟨nb, hnb⟩ : ∃ nb, B.length = nb := ⟨_, rfl⟩
  have hnb1 : nb = min 200 B0.length := by rw [← hnb, ← hBB, List.length_take]
  have HRd := Lib.hid (fun W (hW : Below w.heap.size w W) => FRead_gen B Ab capb W (by omega) hb (hrb.later hW))
  have HCo := Lib.hid (fun W (hW : Below w.heap.size w W) => crcSum_any B Ab capb W (by omega) (hrb.later hW))
  have HOp := Lib.hid (fun (g size : Nat) (bs : List Nat) (D : List MetaV) W (h : BankAt W g bs size D) (hf : FitB bs size D) (hW : Below w.heap.size w W) => Open_any g size bs D i c b B Ab capb W h hf (by omega) hb (hrb.later hW))
  have HOE := Lib.hid (fun (D : List MetaV) (bs : List Nat) => (show openE D bs i c b B = if whereE D i c b ≠ 0 then whereE D i c b else if crcZ B ≠ (whereSum D bs i c b : Nat) then 9 else if rdErr B ≠ 0 then 4 else 0 from rfl))
  have HOF := Lib.hid (fun (D : List MetaV) (bs : List Nat) => (show openF D bs i c b B = if openE D bs i c b B = 0 then rdF B else zeroFr from rfl))
  have HLr := Lib.hid (rdF_len' B)
  have HRt := Lib.hid (show (rdF B).tones.length ≤ 1000000 from Nat.le_trans (rdF_tones B) (by omega))
  rw [hnb] at HRd HCo HOp
  have Hnb1 := Lib.hid hnb1
  generalize B0.length = nb0 at *
  generalize L0.length = n0 at *
  clear hs0 hnm hrb hrb0 hb hb0 hBB hnb hnb1
  go_enter Tryz.func6, Tryz.ntmps6
  go_wp2_with (go_at_call 9; fail)
  refine HF.out.mono ?_
  rintro e w1 ⟨A, cap, L, rfl, hl8, _, _, hnil, hs, hsm, hb1⟩
  have HPk := Lib.hid (Pack_any size L A cap w1 hl8 hnil hs hsm)
  unfold PackP at HPk
  obtain ⟨n, hn'⟩ : ∃ n, L.length = n := ⟨_, rfl⟩
  rw [hn'] at HPk ⊢
  generalize L.map (·.2) = ss at *
  generalize packE size ss = PE at *
  have B1 := Lib.hid hb1
  clear hn' hs hsm hb1 HF hnil hl8
  go_wp2_with (go_at_call 10; fail)
  refine HPk.out.mono ?_
  rintro e w2 ⟨hb2, ⟨hne, rfl⟩ | ⟨rfl, sz, g, rfl, hcan, hg, hby, rfl⟩⟩
  · have t1 : (PE != 0) = true := by rw [bne_iff_ne]; exact hne
    have B2 := Lib.hid (bnext B1.out hb2)
    clear hb2 hne HPk
    go_wp2_with (go_at_call 11; refine (HAw.out _).mono ?_; rintro e w9 ⟨rfl, hb9⟩)
    go_ret
    exact ⟨rfl, bnext B2.out hb9⟩
  have B2 := Lib.hid (bnext B1.out hb2)
  have HPa := Lib.hid (fun W (hW : Below w2.heap.size w2 W) => Parse_packed hcan g W (hby.below hW hby.lt))
  have Hfit := Lib.hid hcan.fit
  have hlen := packZ_len hcan
  have HAsk := Lib.hid (fun (hE : whereE (packDir sz (sortS ss)) i c b = 0) => (show (whereSum (packDir sz (sortS ss)) (packZ sz (sortS ss)) i c b : Int) = crcZ (subB (packZ sz (sortS ss)) (whereAt (packDir sz (sortS ss)) sz i c b).toNat sz) from by
    obtain ⟨_, _, _, _, _, _, _, _, h1, h2⟩ := hcan.asked hE
    rw [h1]; exact h2))
  have Hby := Lib.hid hby
  generalize packDir sz (sortS ss) = D at *
  generalize packZ sz (sortS ss) = bs at *
  generalize packLen sz (sortS ss) = N at *
  have Hlen := Lib.hid hlen
  have hN : N ≤ 4000000 := by rw [← hlen]; exact Hfit.out.long
  clear hlen hcan hby hb2 HPk hg
  go_upto_if 42 with fail
  go_cut [5] (fun s5 wc => s5 = .slice Ab nb capb ∧ w2 = wc)
  case first =>
    by_cases h : 200 < nb0
    · have t1 : (200 : Int) < (nb0 : Int) := by omega
      have t2 : (200 : Int) ≤ (capb : Int) := by omega
      have e := Hnb1.out
      rw [Nat.min_eq_left (by omega)] at e
      subst e
      go_wp2
      go_meet
      case rel => exact ⟨rfl, rfl⟩
    · have t1 : ¬ (200 : Int) < (nb0 : Int) := by omega
      have e := Hnb1.out
      rw [Nat.min_eq_right (by omega)] at e
      subst e
      go_wp2
      go_meet
      case rel => exact ⟨rfl, rfl⟩
  case rest =>
    obtain ⟨rfl, rfl⟩ := hcut
    clear Hnb1 hlb
    go_wp2_with (go_at_call 17; fail)
    refine (HPa.out _ (Below.refl _ _)).mono ?_
    rintro e w3 ⟨gx, rfl, _, hB, hb3⟩
    have hsz1 := Hfit.out.lo
    have hDl := Hfit.out.many
    have B3 := Lib.hid (bnext B2.out hb3)
    have E3 := Lib.hid hb3
    have HB3 := Lib.hid hB
    have HWh := Lib.hid (Where_any gx sz bs D i c b w3 hB Hfit.out)
    have HBy := Lib.hid (fun W (hW : Below w3.heap.size w3 W) => (Bytes_any gx sz bs D i c b W (hB.later hW) Hfit.out).mono fun e w' h => bytesQ h)
    have HOp3 := Lib.hid (fun W (hW : Below w3.heap.size w3 W) => HOp.out gx sz bs D W (hB.later hW) Hfit.out (bnext B3.out hW))
    have HDi := Lib.hid (fun W (hW : Below w3.heap.size w3 W) => BDir_any (hB.later hW) (by omega) hDl)
    have HOE3 := Lib.hid (HOE.out D bs)
    have HOF3 := Lib.hid (HOF.out D bs)
    have HIn := Lib.hid (fun (hE : whereE D i c b = 0) => where_lies Hfit.out hE)
    have HWE := Lib.hid (show whereE D i c b = if metaE D i ≠ 0 then 7 else if c < 0 ∨ (metaI D i).channels ≤ c ∨ b < 0 ∨ countZ (metaI D i).length ≤ b then 5 else 0 from rfl)
    have HWA := Lib.hid (fun (hE : whereE D i c b = 0) => (show whereAt D sz i c b = (metaI D i).first + frameNo D i c b * sz from if_pos hE))
    unfold WherePost at HWh
    unfold BytesQ at HBy
    generalize openE D bs i c b B = OE at *
    generalize openF D bs i c b B = OF at *
    generalize whereAt D sz i c b = AT at *
    generalize whereSum D bs i c b = V at *
    generalize whereE D i c b = E at *
    clear hB hb3 HPa HOp HOE HOF
    go_wp2_with (go_at_call 27; fail)
    refine HWh.out.mono ?_
    rintro e w4 ⟨rfl, hb4⟩
    have E4 := Lib.hid hb4
    clear hb4 HWh
    go_wp2_with (go_at_call 26; fail)
    refine (HBy.out _ E4.out).mono ?_
    rintro e w5 ⟨Ay, ky, cy, rfl, hb5, hyE⟩
    have E5 := Lib.hid (bnext E4.out hb5)
    have HyE := Lib.hid hyE
    clear hb5 hyE HBy E4
    go_wp2_with (go_at_call 28; fail)
    refine (HOp3.out _ E5.out).mono ?_
    rintro e w6 ⟨Az, cz, rfl, htl, hcf, hfr, hrow, hb6⟩
    have E6 := Lib.hid (bnext E5.out hb6)
    have HOFl := Lib.hid (show OF.Len by
      rw [HOF3.out]
      split
      · exact HLr.out
      · exact ⟨rfl, rfl, rfl, rfl⟩)
    obtain ⟨p, hp⟩ : ∃ p : FrH × FrameV, (⟨⟨Az, cz⟩, OF⟩ : FrH × FrameV) = p := ⟨_, rfl⟩
    have hpf : p.2 = OF := by rw [← hp]
    have hpc : frameA OF (.slice Az OF.tones.length cz) = (frC p).toArray := by rw [← hp]; rfl
    rw [hpc]
    have HPc := Lib.hid hpc
    have hpl : (frC p).length = 29 := frC_len (by rw [hpf]; exact HOFl.out)
    have Hp1 := Lib.hid (frC_one p)
    obtain ⟨fl, hfl⟩ : ∃ fl, frC p = fl := ⟨_, rfl⟩
    rw [hfl] at Hp1 hpl HPc ⊢
    have hfs : fl.toArray.size = 29 := by rw [List.size_toArray, hpl]
    have Hfs := Lib.hid hfs
    have HFf := Lib.hid (show (Tryz.prog.info? 62).map (·.size) = some fl.toArray.size by rw [hfs]; exact inf_frame)
    have Hf1 := Lib.hid (show fl.toArray.all (·.oneCell') = true by
      rw [Array.all_eq_true_iff_forall_mem]
      intro v hv
      exact Hp1.out v (by simpa using hv))
    obtain ⟨w7, hw7⟩ : ∃ w7, w6.alloc (.cells fl.toArray 62) = w7 := ⟨_, rfl⟩
    have E7 := Lib.hid (show Below w3.heap.size w3 w7 by rw [← hw7]; exact bnext E6.out (bnew w6 _))
    have F7 := Lib.hid (show w7.heap[w6.heap.size]? = some (.cells fl.toArray 62 (0, 0)) by rw [← hw7]; exact heap_alloc_new w6 _)
    have Hz7 := Lib.hid (show w7.heap.size = w6.heap.size + 1 by rw [← hw7]; simp)
    have Hz6 := Lib.hid (show w3.heap.size ≤ w6.heap.size from E6.out.size)
    have HRz := Lib.hid (show Row w7 w7.heap.size Az (toneCells OF.tones) by rw [← hw7]; exact hrow.later (bnew w6 _))
    have Hcz := Lib.hid (show OF.tones.length ≤ cz ∧ cz ≤ 9223372036854775807 from ⟨htl, hcf⟩)
    have HyE7 := Lib.hid (fun (hE : E = 0) => (show ky = sz ∧ sz ≤ cy ∧ cy ≤ 9223372036854775807 ∧ Row w7 w7.heap.size Ay (u8s (subB bs AT.toNat sz)) from by
      obtain ⟨h1, h2, h3, h4⟩ := HyE.out hE
      exact ⟨h1, h2, h3, by rw [← hw7]; exact (h4.later hb6).later (bnew w6 _)⟩))
    have HDi7 := Lib.hid (HDi.out w7 E7.out)
    unfold CopyP at HDi7
    obtain ⟨nD, hnD⟩ : ∃ nD, D.length = nD := ⟨_, rfl⟩
    rw [hnD] at HDi7 hDl
    have HnD := Lib.hid hnD
    clear htl hcf hfr hrow hb6 hp hpf hpc hpl hfl hfs HyE HOp3 hnD HDi
    go_wp2_with (first | (refine wpList_store_row_w rfl 62 (.tmp 22) (.tmp 76) rfl w6.heap.size rfl _ _ fl.toArray rfl (heap_alloc_new w6 _) HFf.out (by rw [Hfs.out]; rfl) Hf1.out ?_; rw [World.setRow_alloc_new, hw7]; clear hw7) | (go_at_call 20; fail))
    refine HDi7.out.mono ?_
    rintro e w8 ⟨Ad, cd, rfl, hd1, hd2, _, hdo, hb8⟩
    have E8 := Lib.hid (bnext E7.out hb8)
    have F8 := Lib.hid (show w8.heap[w6.heap.size]? = some (.cells fl.toArray 62 (0, 0)) from hkeep F7.out hb8)
    have HRz8 := Lib.hid (HRz.out.later hb8)
    have HyE8 := Lib.hid (fun (hE : E = 0) => (show ky = sz ∧ sz ≤ cy ∧ cy ≤ 9223372036854775807 ∧ Row w8 w8.heap.size Ay (u8s (subB bs AT.toNat sz)) from by
      obtain ⟨h1, h2, h3, h4⟩ := HyE7.out hE
      exact ⟨h1, h2, h3, h4.later hb8⟩))
    have HDr := Lib.hid (Row.of_own hdo)
    clear hb8 hdo HDi7 HyE7 HRz F7 E7
    by_cases hi : i < 0 ∨ (nD : Int) ≤ i
    · have hm : metaE D i = 7 := if_pos (by rw [HnD.out]; exact hi)
      have hE7 : E = 7 := by rw [HWE.out, if_pos (by rw [hm]; decide)]
      have hO7 : OE = 7 := by rw [HOE3.out, if_pos (by rw [hE7]; decide), hE7]
      have hAw := HAw.out
      subst hE7 hO7
      clear hm hAw HIn HWE HWA HOE3 HOF3 HyE8 HAsk
      rcases Int.lt_or_le i 0 with q | q
      · clear hi
        go_wp2_with (go_at_call 11; refine (HAw.out _).mono ?_; rintro e w9 ⟨rfl, hb9⟩)
        go_ret
        exact ⟨rfl, bnext (bnext B3.out E8.out) hb9⟩
      · have q0 : ¬ i < 0 := by omega
        have q1 : (nD : Int) ≤ i := by omega
        clear hi q
        go_wp2_with (go_at_call 11; refine (HAw.out _).mono ?_; rintro e w9 ⟨rfl, hb9⟩)
        go_ret
        exact ⟨rfl, bnext (bnext B3.out E8.out) hb9⟩
    · obtain ⟨m, rfl⟩ := Int.eq_ofNat_of_zero_le (show 0 ≤ i by omega)
      have hm : m < D.length := by rw [HnD.out]; omega
      obtain ⟨x, hx⟩ : ∃ x, D[m]? = some x := ⟨_, List.getElem?_eq_getElem hm⟩
      have hmE : metaE D m = 0 := if_neg (by rw [HnD.out]; exact hi)
      have hmI : metaI D m = x := by
        unfold metaI
        rw [if_neg (by rw [HnD.out]; exact hi), Int.toNat_natCast, List.getD_eq_getElem?_getD, hx]
        rfl
      have hxr := right_bds (Hfit.out.right x (List.mem_of_getElem? hx))
      obtain ⟨bD, oD, rfl, hbD, hcD⟩ := meta_at HDr.out hx
      have HX := Lib.hid hcD
      have HMf := Lib.hid (show (Tryz.prog.info? 49).map (·.size) = some 9 by kernel_rfl)
      have HFl := Lib.hid (show (Tryz.prog.info? 49).map (·.size) = some x.cells.length from HMf.out)
      have HO1 := Lib.hid (meta_all x)
      have HWE2 := Lib.hid (show E = if c < 0 ∨ x.channels ≤ c ∨ b < 0 ∨ countZ x.length ≤ b then 5 else 0 by rw [HWE.out, if_neg (by rw [hmE]; decide), hmI])
      have HWA2 := Lib.hid (fun (hE : E = 0) => (show AT = x.first + frameNo D m c b * sz from by rw [HWA.out hE, hmI]))
      have HIn2 := Lib.hid (fun (hE : E = 0) => (show ∃ (ch cn bn S F q P : Nat), x.channels = ch ∧ c = cn ∧ b = bn ∧ x.sums = S ∧ x.first = F ∧ (bn : Int) * (ch : Int) = ((bn * ch : Nat) : Int) ∧ bn * ch + cn = q ∧ q * sz = P ∧ (q : Int) * (sz : Int) = (P : Int) ∧ S + 4 * q + 4 ≤ F ∧ F + P + sz ≤ bs.length ∧ AT = ((F + P : Nat) : Int) ∧ bn * ch ≤ 1000000 from by
        obtain ⟨x', _, h1, ch, cn, bn, S, F, q, P, e1, e2, e3, e4, e5, e6, e7, e8, e9, l1, l2, _, _, _, l3⟩ := HIn.out hE
        rw [hmI] at h1
        subst h1
        refine ⟨ch, cn, bn, S, F, q, P, e1, e2, e3, e4, e5, e6, e7, e8, e9, l1, l2, ?_, l3⟩
        rw [HWA.out hE, hmI, e5]
        unfold frameNo
        rw [hmI, e1, e2, e3, e6, ← Int.natCast_add, e7, e9]
        push_cast; rfl))
      have hq0 : ¬ (m : Int) < 0 := by omega
      have hq1 : ¬ (nD : Int) ≤ (m : Int) := by omega
      have hq2 : (m : Int) < (nD : Int) := by omega
      clear hx hm hmE hmI hcD hbD hi HWE HWA HIn HDr
      obtain ⟨nm, len, rate, ch, lp, f, t, sums, first⟩ := x
      simp only at hxr
      obtain ⟨⟨x1, x2⟩, _, ⟨x3, x4⟩, _, _⟩ := hxr
      have hquo : (len + 15).tdiv 16 = countZ len := by
        obtain ⟨ln, rfl⟩ := Int.eq_ofNat_of_zero_le (show 0 ≤ len by omega)
        rw [Int.tdiv_eq_ediv_of_nonneg (by omega)]
        unfold countZ
        rw [if_neg (by omega)]
        omega
      have hquo2 : IntKind.i64.wrap (countZ len) = countZ len := IntWalk.i64_in _ (by unfold countZ; split <;> omega)
      have hcz : 0 ≤ countZ len ∧ countZ len ≤ 65537 := by unfold countZ; split <;> omega
      simp only at HWE2 HWA2 HIn2
      generalize countZ len = cz' at *
      have hcs : (c < 0 ∨ (¬ c < 0 ∧ ch ≤ c) ∨ (¬ c < 0 ∧ ¬ ch ≤ c ∧ b < 0) ∨ (¬ c < 0 ∧ ¬ ch ≤ c ∧ ¬ b < 0 ∧ cz' ≤ b)) ∨ (¬ c < 0 ∧ ¬ ch ≤ c ∧ ¬ b < 0 ∧ ¬ cz' ≤ b) := by omega
      rcases hcs with hbad | ⟨q1, q2, q3, q4⟩
      · have hE5 : E = 5 := by rw [HWE2.out, if_pos (by omega)]
        have hO5 : OE = 5 := by rw [HOE3.out, if_pos (by rw [hE5]; decide), hE5]
        subst hE5 hO5
        clear HWE2 HWA2 HIn2 HOE3 HOF3 HyE8 HAsk
        rcases hbad with q1 | ⟨q1, q2⟩ | ⟨q1, q2, q3⟩ | ⟨q1, q2, q3, q4⟩
        all_goals
          go_wp2_with (first | (refine wpList_load_part_w rfl 49 (.tmp 103) rfl bD (oD + m * 9) rfl (MetaV.cells ⟨nm, len, rate, ch, lp, f, t, sums, first⟩) _ HX.out Tryz.underlying49 rfl HFl.out ?_) | (refine wpList_store_row_w rfl 49 (.tmp 25) (.tmp 104) rfl w8.heap.size rfl _ _ #[.string nm, .int .i64 len, .int .i64 rate, .int .i64 ch, .bool lp, .int .i64 f, .int .i64 t, .int .i64 sums, .int .i64 first] rfl (heap_alloc_new w8 _) HMf.out rfl HO1.out ?_; rw [World.setRow_alloc_new]) | (go_at_call 11; refine (HAw.out _).mono ?_; rintro e w9 ⟨rfl, hb9⟩))
          go_ret
          exact ⟨rfl, bnext (bnext B3.out E8.out) (bnext (bnew _ _) hb9)⟩
      have hE0 : E = 0 := by rw [HWE2.out, if_neg (by omega)]
      subst hE0
      obtain ⟨ch', cn, bn, S, F, q, P, rfl, rfl, rfl, rfl, rfl, m1, m2, m3, m4, m5, l1, hAT, hbc⟩ := HIn2.out rfl
      obtain ⟨hky, hcy1, hcy2, hyr⟩ := HyE8.out rfl
      subst hky
      have hAsk := HAsk.out rfl
      rw [Hlen.out] at l1
      obtain ⟨a, ha⟩ : ∃ a, F + P = a := ⟨_, rfl⟩
      rw [ha] at hAT l1
      subst hAT
      rw [Int.toNat_natCast] at hyr hAsk
      obtain ⟨M, hM⟩ : ∃ M, bn * ch' = M := ⟨_, rfl⟩
      rw [hM] at m1 m2 hbc
      have m2' : (M : Int) + (cn : Int) = (q : Int) := by omega
      have m4' : (ky : Int) * (q : Int) = (P : Int) := by rw [Int.mul_comm]; exact m4
      have ha' : (F : Int) + (P : Int) = (a : Int) := by omega
      have hyl := subB_len bs a ky
      obtain ⟨ys, hys⟩ : ∃ ys, subB bs a ky = ys := ⟨_, rfl⟩
      rw [hys] at hyl hyr hAsk
      obtain ⟨y0, hy0⟩ : ∃ y0, ys[0]? = some y0 := ⟨_, List.getElem?_eq_getElem (by omega)⟩
      obtain ⟨bY, oY, rfl, hbY, _⟩ := hyr 0 _ (u8s_get hy0)
      have hg8 : BytesAt w8 g bs := by
        have h1 : Below w2.heap.size w2 w8 := bnext E3.out E8.out
        exact Hby.out.below h1 Hby.out.lt
      have HRy := Lib.hid hyr
      obtain ⟨w9, hw9⟩ : ∃ w9, w8.alloc (.cells #[.string nm, .int .i64 len, .int .i64 rate, .int .i64 ch', .bool lp, .int .i64 f, .int .i64 t, .int .i64 S, .int .i64 F] 49) = w9 := ⟨_, rfl⟩
      have B9 := Lib.hid (show Below w8.heap.size w8 w9 by rw [← hw9]; exact bnew w8 _)
      have HL9 := Lib.hid (show w9.heap[w8.heap.size]? = some (.cells #[.string nm, .int .i64 len, .int .i64 rate, .int .i64 ch', .bool lp, .int .i64 f, .int .i64 t, .int .i64 S, .int .i64 F] 49 (0, 0)) by rw [← hw9]; exact heap_alloc_new w8 _)
      have y1 := (show w9.cell? ⟨w8.heap.size, 1, none⟩ = some (.int .i64 len) from (cell_of_row _ _ _ _ _ _ HL9.out).trans rfl)
      have y3 := (show w9.cell? ⟨w8.heap.size, 3, none⟩ = some (.int .i64 (ch' : Int)) from (cell_of_row _ _ _ _ _ _ HL9.out).trans rfl)
      have x8 := fun (z : GW w9) => (show z.1.cell? ⟨w8.heap.size, 8, none⟩ = some (.int .i64 (F : Int)) from (cell_of_row _ _ _ _ _ _ (gw_heap HL9.out _ ⟨z, rfl⟩)).trans rfl)
      have HCy := Lib.hid (fun (z : GW w9) => (show Calls Tryz.prog 19 #[.slice (some ⟨bY, oY, none⟩) ky cy] z.1 (fun e w' => e = .returned (.int .u32 (V : Int)) ∧ z.1 = w') from by
        have := crcSum_any ys (some ⟨bY, oY, none⟩) cy z.1 (by omega) ((hyr.later B9.out).later z.2)
        rw [hyl, ← hAsk] at this
        exact this))
      obtain ⟨s, hs⟩ : ∃ s, strOfNums (ys.map fun (x : Nat) => (x : Int)) = s := ⟨_, rfl⟩
      have cv1 := fun (z : GW w9) => run_convert_bytes_arg (P := Tryz.prog) z.1 24 5 Tryz.underlying24 Tryz.underlying5 bY oY ky cy (ys.map fun (x : Nat) => (x : Int)) (by rw [List.length_map, hyl]) (fun j hj => by
        have h1 : (u8s ys)[j]? = some (.int .u8 ((ys.getD j 0 : Nat) : Int)) := by
          rw [u8s_get (show ys[j]? = some (ys.getD j 0) by rw [List.getD_eq_getElem?_getD, List.getElem?_eq_getElem (by omega)]; rfl)]
        obtain ⟨b', o', hA, _, hc⟩ := ((hyr.later B9.out).later z.2) j _ h1
        injection hA with hA
        injection hA with e1 e2
        subst e1 e2
        have e : (ys.map fun (x : Nat) => (x : Int)).getD j 0 = ((ys.getD j 0 : Nat) : Int) := by
          rw [List.getD_eq_getElem?_getD, List.getElem?_map, List.getElem?_eq_getElem (by omega), List.getD_eq_getElem?_getD, List.getElem?_eq_getElem (by omega)]
          rfl
        rw [hc, e])
      have cv2 := fun (z : GW w9) => run_convert_bytes_arg (P := Tryz.prog) z.1 24 5 Tryz.underlying24 Tryz.underlying5 g a ky (N - a) (ys.map fun (x : Nat) => (x : Int)) (by rw [List.length_map, hyl]) (fun j hj => by
        have h1 := blk_cells ((hg8.below B9.out hg8.lt).below z.2 (hg8.below B9.out hg8.lt).lt) (a + j)
        have e : (ys.map fun (x : Nat) => (x : Int)).getD j 0 = ((bs.getD (a + j) 0 : Nat) : Int) := by
          rw [List.getD_eq_getElem?_getD, List.getElem?_map, ← hys, subB_get hj]
          rfl
        rw [h1, e]
        exact u8s_get (show bs[a + j]? = some (bs.getD (a + j) 0) by rw [List.getD_eq_getElem?_getD, List.getElem?_eq_getElem (by have := Hlen.out; omega)]; rfl))
      rw [hs] at cv1 cv2
      have r1 : (0 : Int) ≤ (a : Int) := by omega
      have r2 : (a : Int) ≤ (a : Int) + (ky : Int) := by omega
      have r3 : (a : Int) + (ky : Int) ≤ (N : Int) := by omega
      have r4 : ¬ (N = a) := by omega
      have r5 : ¬ ((a : Int) < 0) := by omega
      have r6 : ¬ ((N : Int) < (a : Int) + (ky : Int)) := by omega
      have r7 : decide ((a : Int) < 0) = false := decide_eq_false (by omega)
      have r8 : decide ((N : Int) < (a : Int) + (ky : Int)) = false := decide_eq_false (by omega)
      clear HWE2 HWA2 HIn2 HyE8 HAsk hs hyr hg8 hys hyl hAsk hM ha m3 m4
      go_wp2_with (first | (refine wpList_load_part_w rfl 49 (.tmp 103) rfl bD (oD + m * 9) rfl (MetaV.cells ⟨nm, len, rate, ch', lp, f, t, S, F⟩) _ HX.out Tryz.underlying49 rfl HFl.out ?_) | (refine wpList_store_row_w rfl 49 (.tmp 25) (.tmp 104) rfl w8.heap.size rfl _ _ #[.string nm, .int .i64 len, .int .i64 rate, .int .i64 ch', .bool lp, .int .i64 f, .int .i64 t, .int .i64 S, .int .i64 F] rfl (heap_alloc_new w8 _) HMf.out rfl HO1.out ?_; rw [World.setRow_alloc_new, hw9]))
      refine wp_region_calm (by kernel_rfl) (by kernel_rfl) ?_
      repeat (go_big_quiet_step ((go_at_call 19; exact calm_same (HCy.out _))))
      refine wpQuiet_nil ?_
      intro w10 hw'
      have hb10 := gw_below hw'
      have E10 := Lib.hid (bnext (bnext E8.out B9.out) hb10)
      have F10 := Lib.hid (hkeep (hkeep F8.out B9.out) hb10)
      have HRz10 := Lib.hid ((HRz8.out.later B9.out).later hb10)
      clear hw' x8 cv1 cv2 y1 y3 hb10 F8 HRz8 hw9
      go_wp2_with (go_at_call 29; fail)
      refine (HRd.out _ (bnext B3.out E10.out)).mono ?_
      rintro e w11 ⟨Ar, cr, rfl, htl, hcf, _, hrow, hb11⟩
      have E11 := Lib.hid (bnext E10.out hb11)
      have F11 := Lib.hid (hkeep F10.out hb11)
      have HRz11 := Lib.hid (HRz10.out.later hb11)
      obtain ⟨RF, hRF⟩ : ∃ RF, rdF B = RF := ⟨_, rfl⟩
      rw [hRF] at htl hrow HLr HRt ⊢
      obtain ⟨p2, hp⟩ : ∃ p2 : FrH × FrameV, (⟨⟨Ar, cr⟩, RF⟩ : FrH × FrameV) = p2 := ⟨_, rfl⟩
      have hpf : p2.2 = RF := by rw [← hp]
      have hpc : frameA RF (.slice Ar RF.tones.length cr) = (frC p2).toArray := by rw [← hp]; rfl
      rw [hpc]
      have HPc2 := Lib.hid hpc
      have hpl : (frC p2).length = 29 := frC_len (by rw [hpf]; exact HLr.out)
      have Hp2 := Lib.hid (frC_one p2)
      obtain ⟨fl2, hfl⟩ : ∃ fl2, frC p2 = fl2 := ⟨_, rfl⟩
      rw [hfl] at Hp2 hpl HPc2 ⊢
      have hfs : fl2.toArray.size = 29 := by rw [List.size_toArray, hpl]
      have Hfs2 := Lib.hid hfs
      have HFf2 := Lib.hid (show (Tryz.prog.info? 62).map (·.size) = some fl2.toArray.size by rw [hfs]; exact inf_frame)
      have Hf2 := Lib.hid (show fl2.toArray.all (·.oneCell') = true by
        rw [Array.all_eq_true_iff_forall_mem]
        intro v hv
        exact Hp2.out v (by simpa using hv))
      obtain ⟨w12, hw12⟩ : ∃ w12, w11.alloc (.cells fl2.toArray 62) = w12 := ⟨_, rfl⟩
      have B12 := Lib.hid (show Below w11.heap.size w11 w12 by rw [← hw12]; exact bnew w11 _)
      have E12 := Lib.hid (bnext E11.out B12.out)
      have F12 := Lib.hid (hkeep F11.out B12.out)
      have G12 := Lib.hid (show w12.heap[w11.heap.size]? = some (.cells fl2.toArray 62 (0, 0)) by rw [← hw12]; exact heap_alloc_new w11 _)
      have HRz12 := Lib.hid (HRz11.out.later B12.out)
      have HRr12 := Lib.hid (hrow.later B12.out)
      have hRl := rdF_len' B
      have HRF := Lib.hid hRF
      generalize rdErr B = ER at *
      clear hp hpf hpc hpl hfl hfs hrow hb11 htl hcf hRl hRF
      by_cases hcv : crcZ B = (V : Int)
      rotate_left
      · have hO : OE = 9 := by rw [HOE3.out, if_neg (by decide), if_pos hcv]
        have t1 : (crcZ B != (V : Int)) = true := by rw [bne_iff_ne]; exact hcv
        subst hO
        clear HOE3 HOF3 hcv
        generalize crcZ B = cB at *
        go_wp2_with (first | (refine wpList_store_row_w rfl 62 (.tmp 27) (.tmp 193) rfl w11.heap.size rfl _ _ fl2.toArray rfl (heap_alloc_new w11 _) HFf2.out (by rw [Hfs2.out]; rfl) Hf2.out ?_; rw [World.setRow_alloc_new, hw12]) | (go_at_call 19; refine (HCo.out _ (bnext B3.out E12.out)).mono ?_; rintro e w13 ⟨rfl, rfl⟩) | (go_at_call 11; refine (HAw.out _).mono ?_; rintro e w14 ⟨rfl, hb14⟩))
        go_ret
        exact ⟨rfl, bnext (bnext B3.out E12.out) hb14⟩
      rw [hcv] at HCo HOE3
      have t1 : ((V : Int) != (V : Int)) = false := by simp
      by_cases hER : ER = 0
      rotate_left
      · have hO : OE = 4 := by rw [HOE3.out, if_neg (by decide), if_neg (by simp), if_pos hER]
        have t2 : (ER != 0) = true := by rw [bne_iff_ne]; exact hER
        subst hO
        clear HOE3 HOF3 hcv hER
        go_wp2_with (first | (refine wpList_store_row_w rfl 62 (.tmp 27) (.tmp 193) rfl w11.heap.size rfl _ _ fl2.toArray rfl (heap_alloc_new w11 _) HFf2.out (by rw [Hfs2.out]; rfl) Hf2.out ?_; rw [World.setRow_alloc_new, hw12]) | (go_at_call 19; refine (HCo.out _ (bnext B3.out E12.out)).mono ?_; rintro e w13 ⟨rfl, rfl⟩) | (go_at_call 11; refine (HAw.out _).mono ?_; rintro e w14 ⟨rfl, hb14⟩))
        go_ret
        exact ⟨rfl, bnext (bnext B3.out E12.out) hb14⟩
      subst hER
      have hO : OE = 0 := by rw [HOE3.out, if_neg (by decide), if_neg (by simp), if_neg (by simp)]
      subst hO
      have hOF : OF = RF := by rw [HOF3.out, if_pos rfl, HRF.out]
      subst hOF
      have HSm := Lib.hid (show Calls Tryz.prog 30 #[.agg fl.toArray, .agg fl2.toArray] w12 (fun e w' => e = .returned (.bool true) ∧ Below w12.heap.size w12 w') from by
        rw [← HPc.out, ← HPc2.out]
        exact Same_one OF Az Ar cz cr w12 HOFl.out HRz12.out HRr12.out HRt.out)
      clear HOE3 HOF3 hcv HRF
      go_wp2_with (first | (refine wpList_store_row_w rfl 62 (.tmp 27) (.tmp 193) rfl w11.heap.size rfl _ _ fl2.toArray rfl (heap_alloc_new w11 _) HFf2.out (by rw [Hfs2.out]; rfl) Hf2.out ?_; rw [World.setRow_alloc_new, hw12]) | (go_at_call 19; refine (HCo.out _ (bnext B3.out E12.out)).mono ?_; rintro e w13 ⟨rfl, rfl⟩) | (refine wpList_load_row_w rfl 62 (.tmp 22) rfl w6.heap.size rfl _ fl.toArray _ _ F12.out Tryz.underlying62 rfl HFf.out ?_) | (refine wpList_load_row_w rfl 62 (.tmp 27) rfl w11.heap.size rfl _ fl2.toArray _ _ G12.out Tryz.underlying62 rfl HFf2.out ?_) | (go_at_call 30; refine HSm.out.mono ?_; rintro e w13 ⟨rfl, hb13⟩) | (go_at_call 11; refine (HAw.out _).mono ?_; rintro e w14 ⟨rfl, hb14⟩))
      go_ret
      exact ⟨rfl, bnext (bnext (bnext B3.out E12.out) hb13) hb14⟩
theorem BankFrames_law (W : World) (v0 v1 v2 v3 v4 v5 : Value) (a0 : Arg W (.int .i64) v0) (a1 : Arg W (.slice 6 sampTy) v1) (a2 : Arg W (.int .i64) v2) (a3 : Arg W (.int .i64) v3) (a4 : Arg W (.int .i64) v4) (a5 : Arg W (.slice 1 (.int .u8)) v5) :
    Calls Tryz.prog 6 #[v0, v1, v2, v3, v4, v5] W fun e w' => e = .returned (.bool true) ∧ Below W.heap.size W w' := by
  obtain ⟨size, h0, _, _⟩ := a0
  obtain rfl : v0 = .int .i64 size := by simpa using h0
  obtain ⟨L, A, cap, rfl, _, _, _, hs, hn⟩ := samps_arg a1
  obtain ⟨i, h2, _, _⟩ := a2
  obtain rfl : v2 = .int .i64 i := by simpa using h2
  obtain ⟨c, h3, _, _⟩ := a3
  obtain rfl : v3 = .int .i64 c := by simpa using h3
  obtain ⟨b, h4, _, _⟩ := a4
  obtain rfl : v4 = .int .i64 b := by simpa using h4
  obtain ⟨B, Ab, capb, rfl, hlb, hcb, hb, hrb⟩ := arg_bytes a5
  exact BankFrames_walk size i c b L A cap B Ab capb W hs hn hlb hcb hb hrb
end Go.Proofs.YtoagdidkadfekaaGreatDoor

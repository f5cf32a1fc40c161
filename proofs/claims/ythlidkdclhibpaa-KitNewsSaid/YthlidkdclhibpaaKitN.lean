/- The law KitNews; conditions: as each theorem states. -/
import Derived.Test.YthlidkdclhibpaaKitM
import Derived.WalkLawsBesides
namespace Go.Proofs.Ythlidkdclhibpaa
open Go.RowKit Go.Lib

theorem any_take_succ {α : Type} (p : α → Bool) {l : List α} {k : Nat} {x : α} (h : l[k]? = some x) : (l.take (k + 1)).any p = ((l.take k).any p || p x) := by
  obtain ⟨hk, rfl⟩ := List.getElem?_eq_some_iff.1 h
  rw [List.take_succ_eq_append_getElem hk, List.any_append]; simp
theorem arr_toList (x : List UInt8) : (⟨x.toArray⟩ : ByteArray).toList = x := by rw [ByteArray.toList_eq]
theorem name_beq (s : ByteArray) (x : List UInt8) : (s.toList == (⟨x.toArray⟩ : ByteArray).toList) = decide (s.data.toList = x) := by
  rw [arr_toList, ByteArray.toList_eq, Bool.eq_iff_iff]
  simp
theorem str_row {w : World} {B : Nat} {A : Option Addr} {xs : List (List UInt8)} (hr : Row w B A (xs.map encStr)) {k : Nat} {x : List UInt8} (h : xs[k]? = some x) :
    ∃ b off, A = some ⟨b, off, none⟩ ∧ b < B ∧ w.cell? ⟨b, off + k, none⟩ = some (.string ⟨x.toArray⟩) := hr k (encStr x) (by rw [List.getElem?_map, h]; rfl)
/-- what New leaves, for whatever came of it -/
def NewFacts (zs : List ZoneV) (pv : Option Addr) (ev : Int) (w' : World) : Prop :=
  (64 < zs.length ∧ pv = none ∧ ev = 6) ∨ (zs.length ≤ 64 ∧ zs.all ZoneV.ok = false ∧ pv = none ∧ ev = 1) ∨ (zs.length ≤ 64 ∧ zs.all ZoneV.ok = true ∧ ev = 0 ∧ ∃ g, pv = some ⟨g, 0, none⟩ ∧ KitAt w' g zs)
theorem new_facts {W : World} {zs : List ZoneV} {e : Ending} {w' : World} (h : NewPost W zs e w') : ∃ pv ev, e = .returned (.tuple #[.pointer pv, .int .i64 ev]) ∧ NewFacts zs pv ev w' ∧ Below W.heap.size W w' := by
  rcases h with ⟨h1, h2, h3⟩ | ⟨h1, h2, h3, h4⟩ | ⟨h1, h2, g, h3, h4, _, h5⟩
  · exact ⟨none, 6, h2, .inl ⟨h1, rfl, rfl⟩, h3⟩
  · exact ⟨none, 1, h3, .inr (.inl ⟨h1, h2, rfl, rfl⟩), h4⟩
  · exact ⟨some ⟨g, 0, none⟩, 0, h3, .inr (.inr ⟨h1, h2, rfl, g, rfl, h4⟩), h5⟩

set_option maxRecDepth 100000 in
set_option maxHeartbeats 8000000 in
theorem KitNews_core (l : List ZoneV) (N : Nat) (A : Option Addr) (cap : Nat) (w : World) (hN : (N = l.length ∧ N ≤ 70) ∨ (70 < N ∧ l.length = 70 ∧ N ≤ cap ∧ cap ≤ 9223372036854775807)) (hn : A = none → cap = 0) (hr : Row w w.heap.size A (zoneCells l)) :
    Calls Try.prog 9 #[.slice A N cap] w fun e w' => e = .returned (.bool true) ∧ Below w.heap.size w w' := by
  have hl : l.length ≤ 70 := by omega
  have HN := Lib.hid (kitNew_any l A cap w (by omega) hn hr)
  have Hr := Lib.hid hr
  have hA : 70 < N → ∃ ad, A = some ad := by
    intro h
    obtain ⟨z, hz⟩ := list_get (b := l) (k := 0) rfl (by omega)
    obtain ⟨b, off, hA, _⟩ := zone_at hr hz
    exact ⟨_, hA⟩
  obtain ⟨n, hn'⟩ : ∃ n, l.length = n := ⟨_, rfl⟩
  rw [hn'] at HN hl hN
  have Hn := Lib.hid hn'
  clear hn' hr hn
  go_enter Try.func9, Try.ntmps9
  go_upto_if 18 with fail
  go_cut [0] (fun v wx => v = .slice A n cap ∧ wx = w)
  case first =>
    rcases hN with ⟨rfl, h70⟩ | ⟨h70, rfl, hc1, hc2⟩
    · have t70 : ¬ ((70 : Int) < (N : Int)) := by omega
      clear hA
      go_wp2
      go_meet
      exact ⟨rfl, rfl⟩
    · have t70 : (70 : Int) < (N : Int) := by omega
      obtain ⟨ad, rfl⟩ := hA h70
      go_wp2
      go_meet
      exact ⟨rfl, rfl⟩
  case rest =>
   obtain ⟨rfl, rfl⟩ := hcut
   go_wp2_with fail
   refine HN.out.mono ?_
   intro e w1 hpost
   obtain ⟨pv, ev, rfl, hf, hb1⟩ := new_facts hpost
   have Hf := Lib.hid hf
   have Hb1 := Lib.hid hb1
   clear hpost hf hb1 HN
   go_wp2_with fail
   go_loopw [5, 6] (fun o i wr => ∃ k : Nat, k ≤ n ∧ i = .int .i64 k ∧ o = .bool ((l.take k).all ZoneV.ok) ∧ Below w1.heap.size w1 wr) (fun _ i _ => n - (intOf i).toNat)
   case atStart => exact ⟨0, Nat.zero_le _, rfl, rfl, Below.refl _ _⟩
   case round =>
     obtain ⟨k, hk, rfl, rfl, hbel⟩ := hrel
     have Hbel := Lib.hid hbel
     clear hbel
     obtain ⟨K, hK⟩ : ∃ K, (l.take k).all ZoneV.ok = K := ⟨_, rfl⟩
     rw [hK]
     have HK := Lib.hid hK
     clear hK
     by_cases hlt : k < n
     · have t1 : (k : Int) < (n : Int) := by omega
       obtain ⟨z, hz⟩ := list_get (k := k) Hn.out hlt
       obtain ⟨b, off, rfl, hb, hc⟩ := zone_at Hr.out hz
       have HB := Lib.hid (fun W (hW : Below w1.heap.size w1 W) j v (hv : z.cells[j]? = some v) => ((Hb1.out.trans (hW.mono Hb1.out.size)).cell (p := ⟨b, off + k * 11 + j, none⟩) hb).trans (hc j v hv))
       have Hz := Lib.hid hz
       have HR1 := Lib.hid (fun W => kitRight_any z W)
       have HR2 := Lib.hid (fun W => lawright38_any z W)
       have HS := Lib.hid (all_take_succ ZoneV.ok hz)
       rw [HK.out] at HS
       obtain ⟨Z, hZ⟩ : ∃ Z, z.ok = Z := ⟨_, rfl⟩
       rw [hZ] at HR1 HR2 HS
       have x0 := fun (x : GW wr) => HB.out x.1 (bnext Hbel.out x.2) 0 _ rfl
       have x1 := fun (x : GW wr) => HB.out x.1 (bnext Hbel.out x.2) 1 _ rfl
       have x2 := fun (x : GW wr) => HB.out x.1 (bnext Hbel.out x.2) 2 _ rfl
       have x3 := fun (x : GW wr) => HB.out x.1 (bnext Hbel.out x.2) 3 _ rfl
       have x4 := fun (x : GW wr) => HB.out x.1 (bnext Hbel.out x.2) 4 _ rfl
       have x5 := fun (x : GW wr) => HB.out x.1 (bnext Hbel.out x.2) 5 _ rfl
       have x6 := fun (x : GW wr) => HB.out x.1 (bnext Hbel.out x.2) 6 _ rfl
       have x7 := fun (x : GW wr) => HB.out x.1 (bnext Hbel.out x.2) 7 _ rfl
       have x8 := fun (x : GW wr) => HB.out x.1 (bnext Hbel.out x.2) 8 _ rfl
       have x9 := fun (x : GW wr) => HB.out x.1 (bnext Hbel.out x.2) 9 _ rfl
       have x10 := fun (x : GW wr) => HB.out x.1 (bnext Hbel.out x.2) 10 _ rfl
       simp only [Nat.add_zero] at x0
       clear hz hc hb hZ
       cases Z
       all_goals
         go_wp2_with fail
         refine wp_region_calm (by kernel_rfl) (by kernel_rfl) ?_
         repeat (go_big_quiet_step ((first | (go_at_call 44; exact calm_call (HR1.out _)) | (go_at_call 45; exact calm_call (HR2.out _)))))
         refine wpQuiet_nil ?_
         intro w5 hw'
         have hb5 := gw_below hw'
         have HW5 := Lib.hid (bnext Hbel.out hb5)
         clear hw' hb5 x0 x1 x2 x3 x4 x5 x6 x7 x8 x9 x10
         have c0 := HB.out w5 HW5.out 0 _ rfl
         have c1 := HB.out w5 HW5.out 1 _ rfl
         have c2 := HB.out w5 HW5.out 2 _ rfl
         have c3 := HB.out w5 HW5.out 3 _ rfl
         have c4 := HB.out w5 HW5.out 4 _ rfl
         have c5 := HB.out w5 HW5.out 5 _ rfl
         have c6 := HB.out w5 HW5.out 6 _ rfl
         have c7 := HB.out w5 HW5.out 7 _ rfl
         have c8 := HB.out w5 HW5.out 8 _ rfl
         have c9 := HB.out w5 HW5.out 9 _ rfl
         have c10 := HB.out w5 HW5.out 10 _ rfl
         rw [Nat.add_zero] at c0
         cases K
         · go_wp2_with fail
           go_roundw
           case rel => exact ⟨k + 1, by omega, by go_num, by rw [HS.out]; rfl, HW5.out⟩
           case measure => simp [intOf]; omega
         · go_wp2_with fail
           refine (HR2.out _).mono ?_
           rintro e w6 ⟨rfl, hb6⟩
           clear c0 c1 c2 c3 c4 c5 c6 c7 c8 c9 c10
           go_wp2_with fail
           go_roundw
           case rel => exact ⟨k + 1, by omega, by go_num, by rw [HS.out]; rfl, bnext HW5.out hb6⟩
           case measure => simp [intOf]; omega
     · have hkn : k = n := by omega
       subst hkn
       have hall : l.all ZoneV.ok = K := by rw [← HK.out, List.take_of_length_le (by rw [Hn.out]; omega)]
       have hfin := Hf.out
       unfold NewFacts at hfin
       rw [Hn.out, hall] at hfin
       have Hw := Lib.hid (Hb1.out.trans (Hbel.out.mono Hb1.out.size))
       have Hall := Lib.hid hall
       clear Hf hall
       rcases hfin with ⟨h64, h1, h2⟩ | ⟨h64, h0, h1, h2⟩ | ⟨h64, h0, h2, g, h1, hkit⟩
       · subst h1 h2
         have t2 : (64 : Int) < (k : Int) := by omega
         go_wp2_with (go_at_call 35; refine (awake38_any _).mono ?_; rintro e w7 ⟨rfl, hb7⟩)
         go_ret
         exact ⟨rfl, bnext Hw.out hb7⟩
       · subst h0 h1 h2
         have t2 : ¬ ((64 : Int) < (k : Int)) := by omega
         go_wp2_with (go_at_call 35; refine (awake38_any _).mono ?_; rintro e w7 ⟨rfl, hb7⟩)
         go_ret
         exact ⟨rfl, bnext Hw.out hb7⟩
       · subst h0 h1 h2
         have t2 : ¬ ((64 : Int) < (k : Int)) := by omega
         have HZ := Lib.hid (Zones_any l g wr (by rw [Hn.out]; omega) (hkit.later Hbel.out))
         have Hkit := Lib.hid hkit
         clear hkit
         go_wp2_with fail
         refine HZ.out.mono ?_
         rintro e w8 ⟨A8, c8', rfl, _, _, hrow8, _, hb8⟩
         rw [Hn.out]
         have Hr8 := Lib.hid hrow8
         have Hb8 := Lib.hid (bnext Hbel.out hb8)
         clear hrow8 hb8 HZ
         have t3 : ((k : Int) != (k : Int)) = false := bne_self_eq_false _
         go_wp2_with fail
         go_loopw [8] (fun i wq => ∃ j : Nat, j ≤ k ∧ i = .int .i64 j ∧ Below w8.heap.size w8 wq) (fun i _ => k - (intOf i).toNat)
         case atStart => exact ⟨0, Nat.zero_le _, rfl, Below.refl _ _⟩
         case round =>
           obtain ⟨j, hj, rfl, hbq⟩ := hrel
           have Hbq := Lib.hid hbq
           clear hbq
           by_cases hlt2 : j < k
           · have t4 : (j : Int) < (k : Int) := by omega
             obtain ⟨z, hz⟩ := list_get (k := j) Hn.out hlt2
             obtain ⟨b, off, hA1, hb, hc⟩ := zone_at Hr.out hz
             obtain ⟨b2, off2, hA2, hb2, hc2⟩ := zone_at Hr8.out hz
             have HB := Lib.hid (fun W (hW : Below wr.heap.size wr W) q v (hv : z.cells[q]? = some v) => (((Hb1.out.trans (Hb8.out.mono Hb1.out.size)).trans ((Hbq.out.trans (hW.mono Hbq.out.size)).mono (Nat.le_trans Hb1.out.size Hb8.out.size))).cell (p := ⟨b, off + j * 11 + q, none⟩) hb).trans (hc q v hv))
             have HB2 := Lib.hid (fun W (hW : Below wr.heap.size wr W) q v (hv : z.cells[q]? = some v) => ((Hbq.out.trans (hW.mono Hbq.out.size)).cell (p := ⟨b2, off2 + j * 11 + q, none⟩) hb2).trans (hc2 q v hv))
             subst hA1 hA2
             clear hz hc hc2 hb hb2
             have x0 := fun (x : GW wr) => HB.out x.1 x.2 0 _ rfl
             have x1 := fun (x : GW wr) => HB.out x.1 x.2 1 _ rfl
             have x2 := fun (x : GW wr) => HB.out x.1 x.2 2 _ rfl
             have x3 := fun (x : GW wr) => HB.out x.1 x.2 3 _ rfl
             have x4 := fun (x : GW wr) => HB.out x.1 x.2 4 _ rfl
             have x5 := fun (x : GW wr) => HB.out x.1 x.2 5 _ rfl
             have x6 := fun (x : GW wr) => HB.out x.1 x.2 6 _ rfl
             have x7 := fun (x : GW wr) => HB.out x.1 x.2 7 _ rfl
             have x8 := fun (x : GW wr) => HB.out x.1 x.2 8 _ rfl
             have x9 := fun (x : GW wr) => HB.out x.1 x.2 9 _ rfl
             have x10 := fun (x : GW wr) => HB.out x.1 x.2 10 _ rfl
             have y0 := fun (x : GW wr) => HB2.out x.1 x.2 0 _ rfl
             have y1 := fun (x : GW wr) => HB2.out x.1 x.2 1 _ rfl
             have y2 := fun (x : GW wr) => HB2.out x.1 x.2 2 _ rfl
             have y3 := fun (x : GW wr) => HB2.out x.1 x.2 3 _ rfl
             have y4 := fun (x : GW wr) => HB2.out x.1 x.2 4 _ rfl
             have y5 := fun (x : GW wr) => HB2.out x.1 x.2 5 _ rfl
             have y6 := fun (x : GW wr) => HB2.out x.1 x.2 6 _ rfl
             have y7 := fun (x : GW wr) => HB2.out x.1 x.2 7 _ rfl
             have y8 := fun (x : GW wr) => HB2.out x.1 x.2 8 _ rfl
             have y9 := fun (x : GW wr) => HB2.out x.1 x.2 9 _ rfl
             have y10 := fun (x : GW wr) => HB2.out x.1 x.2 10 _ rfl
             simp only [Nat.add_zero] at x0 y0
             go_wp2_with fail
             refine wp_region_calm (by kernel_rfl) (by kernel_rfl) ?_
             repeat (go_big_quiet_step (fail))
             refine wpQuiet_nil ?_
             intro w5 hw'
             have hb5 := gw_below hw'
             have HW5 := Lib.hid (bnext Hbq.out hb5)
             clear hw' hb5 x0 x1 x2 x3 x4 x5 x6 x7 x8 x9 x10 y0 y1 y2 y3 y4 y5 y6 y7 y8 y9 y10
             go_wp2_with fail
             go_roundw
             case rel => exact ⟨j + 1, by omega, by go_num, HW5.out⟩
             case measure => simp [intOf]; omega
           · have t4 : ¬ ((j : Int) < (k : Int)) := by omega
             have hk9 := (Hkit.out.later Hb8.out).later Hbq.out
             have HNm := Lib.hid (Names_any l g wr (by rw [Hn.out]; omega) hk9)
             have Hw9 := Lib.hid (bnext Hb1.out (bnext Hb8.out Hbq.out))
             have HOF := Lib.hid (once_facts (zoneNames l))
             clear hk9 Hkit Hr8
             go_wp2_with fail
             refine HNm.out.mono ?_
             rintro e w10 ⟨A10, c10, rfl, hn6, hlc10, hrow10, hb10⟩
             have HrN := Lib.hid hrow10
             have Hw10 := Lib.hid (bnext Hw9.out hb10)
             have HM := Lib.hid (fun (x : List UInt8) => show x ∈ zoneNames l ↔ ∃ z ∈ l, z.name.data.toList = x from by unfold zoneNames; simp)
             generalize onceOf (zoneNames l) = NL at *
             obtain ⟨m, hm⟩ : ∃ m, NL.length = m := ⟨_, rfl⟩
             rw [hm] at hn6 hlc10 ⊢
             have Hm := Lib.hid hm
             clear hrow10 hb10 hm HNm
             go_wp2_with fail
             go_loopw [10, 11, 12] (fun i _ _ wq => ∃ q : Nat, q ≤ m ∧ i = .int .i64 q ∧ Below w10.heap.size w10 wq) (fun i _ _ _ => m - (intOf i).toNat)
             case atStart => exact ⟨0, Nat.zero_le _, rfl, Below.refl _ _⟩
             case round =>
               obtain ⟨q, hq, rfl, hbq⟩ := hrel
               have HbQ := Lib.hid hbq
               clear hbq
               by_cases hlt3 : q < m
               · have t5 : (q : Int) < (m : Int) := by omega
                 obtain ⟨x, hx⟩ := list_get (k := q) Hm.out hlt3
                 have hxm := List.mem_of_getElem? hx
                 obtain ⟨g2, off2, hA2, hg2, hcx⟩ := str_row HrN.out hx
                 have HX := Lib.hid (fun W (hW : Below w10.heap.size w10 W) => (hW.cell (p := ⟨g2, off2 + q, none⟩) hg2).trans hcx)
                 have Hin := Lib.hid ((HM.out x).1 ((HOF.out.2 x).1 hxm))
                 have Hprev := Lib.hid (show 0 < q → ∃ y, NL[q - 1]? = some y ∧ compareBytes y x < 0 from fun h0 => by
                   obtain ⟨y, hy⟩ := list_get (k := q - 1) Hm.out (by omega)
                   refine ⟨y, hy, ?_⟩
                   have hp := List.pairwise_iff_getElem.1 HOF.out.1 (q - 1) q (by have := Hm.out; omega) (by have := Hm.out; omega) (by omega)
                   rw [(List.getElem?_eq_some_iff.1 hy).2, (List.getElem?_eq_some_iff.1 hx).2] at hp
                   exact hp)
                 subst hA2
                 clear hx hxm hg2 hcx
                 go_wp2_with fail
                 go_loopw [11, 12] (fun o i wq => ∃ j : Nat, j ≤ k ∧ i = .int .i64 j ∧ o = .bool ((l.take j).any fun z => decide (z.name.data.toList = x)) ∧ Below w10.heap.size w10 wq) (fun _ i _ => k - (intOf i).toNat)
                 case atStart => exact ⟨0, Nat.zero_le _, rfl, rfl, HbQ.out⟩
                 case round =>
                   obtain ⟨j2, hj2, rfl, rfl, hbq⟩ := hrel
                   have HbR := Lib.hid hbq
                   clear hbq
                   obtain ⟨T, hT⟩ : ∃ T, ((l.take j2).any fun z => decide (z.name.data.toList = x)) = T := ⟨_, rfl⟩
                   rw [hT]
                   have HT := Lib.hid hT
                   clear hT
                   by_cases hlt4 : j2 < k
                   · have t6 : (j2 : Int) < (k : Int) := by omega
                     obtain ⟨z, hz⟩ := list_get (k := j2) Hn.out hlt4
                     obtain ⟨b, off, hA1, hb, hc⟩ := zone_at Hr.out hz
                     have HB := Lib.hid (fun W (hW : Below w10.heap.size w10 W) => ((Hw10.out.trans (hW.mono Hw10.out.size)).cell (p := ⟨b, off + j2 * 11 + 4, none⟩) hb).trans (hc 4 _ rfl))
                     have HS := Lib.hid (any_take_succ (fun z : ZoneV => decide (z.name.data.toList = x)) hz)
                     rw [HT.out] at HS
                     have hbe := name_beq z.name x
                     subst hA1
                     clear hz hc hb
                     cases T
                     · have x4 := fun (y : GW wr) => HB.out y.1 (bnext HbR.out y.2)
                       have y4 := fun (y : GW wr) => HX.out y.1 (bnext HbR.out y.2)
                       obtain ⟨D, hD⟩ : ∃ D, decide (z.name.data.toList = x) = D := ⟨_, rfl⟩
                       rw [hD] at hbe HS
                       have hbe2 := hbe
                       clear hD
                       generalize hX : (⟨x.toArray⟩ : ByteArray) = X at *
                       have HXX := Lib.hid hX
                       clear hX hbe2
                       go_wp2_with fail
                       refine wp_region_calm (by kernel_rfl) (by kernel_rfl) ?_
                       repeat (go_big_quiet_step (fail))
                       refine wpQuiet_nil ?_
                       intro w5 hw'
                       have hb5 := gw_below hw'
                       have HW5 := Lib.hid (bnext HbR.out hb5)
                       clear hw' hb5 x4 y4
                       go_wp2_with fail
                       go_roundw
                       case rel => exact ⟨j2 + 1, by omega, by go_num, by rw [HS.out]; simp, HW5.out⟩
                       case measure => simp [intOf]; omega
                     · clear hbe
                       go_wp2_with fail
                       refine wp_region_calm (by kernel_rfl) (by kernel_rfl) ?_
                       repeat (go_big_quiet_step (fail))
                       refine wpQuiet_nil ?_
                       intro w5 hw'
                       have hb5 := gw_below hw'
                       have HW5 := Lib.hid (bnext HbR.out hb5)
                       clear hw' hb5
                       go_wp2_with fail
                       go_roundw
                       case rel => exact ⟨j2 + 1, by omega, by go_num, by rw [HS.out]; simp, HW5.out⟩
                       case measure => simp [intOf]; omega
                   · have t6 : ¬ ((j2 : Int) < (k : Int)) := by omega
                     have hT2 : T = true := by
                       rw [← HT.out, List.take_of_length_le (by rw [Hn.out]; omega), List.any_eq_true]
                       obtain ⟨z, h1, h2⟩ := Hin.out
                       exact ⟨z, h1, decide_eq_true h2⟩
                     subst hT2
                     by_cases h0 : 0 < q
                     · have t7 : (0 : Int) < (q : Int) := by omega
                       have t8 : decide ((0 : Int) < (q : Int)) = true := decide_eq_true t7
                       obtain ⟨y, hy, hyx⟩ := Hprev.out h0
                       obtain ⟨q1, rfl⟩ : ∃ q1, q = q1 + 1 := ⟨q - 1, by omega⟩
                       rw [Nat.add_sub_cancel] at hy
                       have t9 : decide ((0 : Int) < (q1 : Int) + 1) = true := decide_eq_true (by omega)
                       have t10 : (0 : Int) < (q1 : Int) + 1 := by omega
                       obtain ⟨g3, off3, hA3, hg3, hcy⟩ := str_row HrN.out hy
                       injection hA3 with hA3
                       injection hA3 with e1 e2
                       subst e1 e2
                       have hlss : Op.bytesLess (⟨y.toArray⟩ : ByteArray).toList (⟨x.toArray⟩ : ByteArray).toList = true := by rw [arr_toList, arr_toList, bytesLess_cmp]; exact decide_eq_true hyx
                       have x4 := fun (z : GW wr) => HX.out z.1 (bnext HbR.out z.2)
                       have y4 := fun (z : GW wr) => ((bnext HbR.out z.2).cell (p := ⟨g2, off2 + q1, none⟩) hg3).trans hcy
                       generalize (⟨x.toArray⟩ : ByteArray) = X at *
                       generalize (⟨y.toArray⟩ : ByteArray) = Y at *
                       have hwr : IntKind.i64.wrap ((q1 : Int) + 1 - 1) = (q1 : Int) := by rw [show (q1 : Int) + 1 - 1 = (q1 : Int) by omega]; exact IntWalk.i64_in _ (by omega)
                       clear hyx hy hcy
                       go_wp2_with fail
                       refine wp_region_calm (by kernel_rfl) (by kernel_rfl) ?_
                       repeat (go_big_quiet_step (fail))
                       refine wpQuiet_nil ?_
                       intro w5 hw'
                       have hb5 := gw_below hw'
                       have HW5 := Lib.hid (bnext HbR.out hb5)
                       clear hw' hb5 x4 y4
                       go_wp2_with fail
                       go_roundw
                       case rel => exact ⟨q1 + 1 + 1, by omega, by go_num, HW5.out⟩
                       case measure => simp [intOf]; omega
                     · have t7 : ¬ ((0 : Int) < (q : Int)) := by omega
                       have t8 : decide ((0 : Int) < (q : Int)) = false := decide_eq_false t7
                       have t9 : decide (0 < q) = false := decide_eq_false h0
                       go_wp2_with fail
                       refine wp_region_calm (by kernel_rfl) (by kernel_rfl) ?_
                       repeat (go_big_quiet_step (fail))
                       refine wpQuiet_nil ?_
                       intro w5 hw'
                       have hb5 := gw_below hw'
                       have HW5 := Lib.hid (bnext HbR.out hb5)
                       clear hw' hb5
                       go_wp2_with fail
                       go_roundw
                       case rel => exact ⟨q + 1, by omega, by go_num, HW5.out⟩
                       case measure => simp [intOf]; omega
               · have t5 : ¬ ((q : Int) < (m : Int)) := by omega
                 go_wp2_with fail
                 go_loopw [13, 14, 15] (fun i _ _ wq => ∃ j : Nat, j ≤ k ∧ i = .int .i64 j ∧ Below w10.heap.size w10 wq) (fun i _ _ _ => k - (intOf i).toNat)
                 case atStart => exact ⟨0, Nat.zero_le _, rfl, HbQ.out⟩
                 case round =>
                   obtain ⟨j3, hj3, rfl, hbq⟩ := hrel
                   have HbR := Lib.hid hbq
                   clear hbq
                   by_cases hlt4 : j3 < k
                   · have t6 : (j3 : Int) < (k : Int) := by omega
                     obtain ⟨z, hz⟩ := list_get (k := j3) Hn.out hlt4
                     have hzm := List.mem_of_getElem? hz
                     obtain ⟨b, off, hA1, hb, hc⟩ := zone_at Hr.out hz
                     have HB := Lib.hid (fun W (hW : Below w10.heap.size w10 W) => ((Hw10.out.trans (hW.mono Hw10.out.size)).cell (p := ⟨b, off + j3 * 11 + 4, none⟩) hb).trans (hc 4 _ rfl))
                     have Hin := Lib.hid ((HOF.out.2 z.name.data.toList).2 ((HM.out z.name.data.toList).2 ⟨z, hzm, rfl⟩))
                     subst hA1
                     clear hz hc hb hzm
                     go_wp2_with fail
                     go_loopw [14, 15] (fun o i wq => ∃ q2 : Nat, q2 ≤ m ∧ i = .int .i64 q2 ∧ o = .bool ((NL.take q2).any fun x => decide (z.name.data.toList = x)) ∧ Below w10.heap.size w10 wq) (fun _ i _ => m - (intOf i).toNat)
                     case atStart => exact ⟨0, Nat.zero_le _, rfl, rfl, HbR.out⟩
                     case round =>
                       obtain ⟨q2, hq2, rfl, rfl, hbq⟩ := hrel
                       have HbS := Lib.hid hbq
                       clear hbq
                       obtain ⟨T, hT⟩ : ∃ T, ((NL.take q2).any fun x => decide (z.name.data.toList = x)) = T := ⟨_, rfl⟩
                       rw [hT]
                       have HT := Lib.hid hT
                       clear hT
                       by_cases hlt5 : q2 < m
                       · have t7 : (q2 : Int) < (m : Int) := by omega
                         obtain ⟨x, hx⟩ := list_get (k := q2) Hm.out hlt5
                         obtain ⟨g2, off2, hA2, hg2, hcx⟩ := str_row HrN.out hx
                         have HX := Lib.hid (fun W (hW : Below w10.heap.size w10 W) => (hW.cell (p := ⟨g2, off2 + q2, none⟩) hg2).trans hcx)
                         have HS := Lib.hid (any_take_succ (fun x => decide (z.name.data.toList = x)) hx)
                         rw [HT.out] at HS
                         have hbe := name_beq z.name x
                         subst hA2
                         clear hx hg2 hcx
                         cases T
                         · have x4 := fun (y : GW wr) => HB.out y.1 (bnext HbS.out y.2)
                           have y4 := fun (y : GW wr) => HX.out y.1 (bnext HbS.out y.2)
                           obtain ⟨D, hD⟩ : ∃ D, decide (z.name.data.toList = x) = D := ⟨_, rfl⟩
                           rw [hD] at hbe HS
                           clear hD
                           generalize (⟨x.toArray⟩ : ByteArray) = X at *
                           go_wp2_with fail
                           refine wp_region_calm (by kernel_rfl) (by kernel_rfl) ?_
                           repeat (go_big_quiet_step (fail))
                           refine wpQuiet_nil ?_
                           intro w5 hw'
                           have hb5 := gw_below hw'
                           have HW5 := Lib.hid (bnext HbS.out hb5)
                           clear hw' hb5 x4 y4
                           go_wp2_with fail
                           go_roundw
                           case rel => exact ⟨q2 + 1, by omega, by go_num, by rw [HS.out]; simp, HW5.out⟩
                           case measure => simp [intOf]; omega
                         · clear hbe
                           go_wp2_with fail
                           refine wp_region_calm (by kernel_rfl) (by kernel_rfl) ?_
                           repeat (go_big_quiet_step (fail))
                           refine wpQuiet_nil ?_
                           intro w5 hw'
                           have hb5 := gw_below hw'
                           have HW5 := Lib.hid (bnext HbS.out hb5)
                           clear hw' hb5
                           go_wp2_with fail
                           go_roundw
                           case rel => exact ⟨q2 + 1, by omega, by go_num, by rw [HS.out]; simp, HW5.out⟩
                           case measure => simp [intOf]; omega
                       · have t7 : ¬ ((q2 : Int) < (m : Int)) := by omega
                         have hT2 : T = true := by
                           rw [← HT.out, List.take_of_length_le (by rw [Hm.out]; omega), List.any_eq_true]
                           exact ⟨_, Hin.out, decide_eq_true rfl⟩
                         subst hT2
                         go_wp2_with fail
                         go_roundw
                         case rel => exact ⟨j3 + 1, by omega, by go_num, HbS.out⟩
                         case measure => simp [intOf]; omega
                   · have t6 : ¬ ((j3 : Int) < (k : Int)) := by omega
                     go_wp2_with (go_at_call 35; refine (awake38_any _).mono ?_; rintro e w7 ⟨rfl, hb7⟩)
                     go_ret
                     exact ⟨rfl, bnext Hw10.out (bnext HbR.out hb7)⟩
theorem KitNews_law (W : World) (v0 : Value) (a0 : Arg W (.slice 11 zoneTy) v0) :
    Calls Try.prog 9 #[v0] W fun e w' => e = .returned (.bool true) ∧ Below W.heap.size W w' := by
  obtain ⟨l, A, cap, rfl, h1, h2, h3, hrow⟩ := zones_arg a0
  by_cases h : l.length ≤ 70
  · exact KitNews_core l l.length A cap W (.inl ⟨rfl, h⟩) h3 hrow
  · have hpre : zoneCells (l.take 70) = (zoneCells l).take (70 * 11) := by
      have h4 : zoneCells l = zoneCells (l.take 70) ++ zoneCells (l.drop 70) := by
        unfold zoneCells
        rw [← List.flatten_append, ← List.map_append, List.take_append_drop]
      have h5 : (zoneCells (l.take 70)).length = 70 * 11 := by rw [zones_len, List.length_take]; omega
      rw [h4, ← h5, List.take_left]
    exact KitNews_core (l.take 70) l.length A cap W (.inr ⟨by omega, by rw [List.length_take]; omega, h1, h2⟩) h3 (by rw [hpre]; exact hrow.take _)
end Go.Proofs.Ythlidkdclhibpaa

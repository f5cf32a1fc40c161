/- EdC. Conditions: as each theorem states. -/
import Derived.Test.YtgcfkblmnpnogaaGreatDoorPhxEdB
import Derived.Test.YtgcfkblmnpnogaaGreatDoorPh10

namespace Go.Proofs.YtgcfkblmnpnogaaGreatDoor
open Go.RowKit Go.Lib

/-- where a name is among samples, or where it would be -/
def atZ (Z : List RawV) (nm : ByteArray) : Nat := (Z.takeWhile fun r => nameLt r.m.name nm).length
def atB (Z : List RawV) (nm : ByteArray) : Bool := match Z[atZ Z nm]? with
  | some r => r.m.name.toList == nm.toList
  | none => false
theorem atZ_eq {Z : List RawV} {nm : ByteArray} : ∀ {k : Nat}, k ≤ Z.length → (∀ t r, t < k → Z[t]? = some r → nameLt r.m.name nm = true) → (∀ r, Z[k]? = some r → nameLt r.m.name nm = false) → atZ Z nm = k := by
  unfold atZ
  induction Z with
  | nil =>
    intro k hk _ _
    have : k = 0 := by simpa using hk
    subst this
    rfl
  | cons x r ih =>
    intro k hk h1 h2
    cases k with
    | zero =>
      have := h2 x rfl
      rw [List.takeWhile_cons, if_neg (by rw [this]; decide)]
      rfl
    | succ k =>
      have := h1 0 x (by omega) rfl
      rw [List.takeWhile_cons, if_pos this, List.length_cons, ih (by simpa using hk) (fun t r ht hr => h1 (t + 1) r (by omega) (by simpa using hr)) (fun r hr => h2 r (by simpa using hr))]
theorem atZ_le (Z : List RawV) (nm : ByteArray) : atZ Z nm ≤ Z.length := by
  unfold atZ
  exact List.Sublist.length_le (List.takeWhile_sublist _)
set_option maxRecDepth 100000 in
set_option maxHeartbeats 4000000 in
theorem at_any (L : List (HRaw × RawV)) (A : Option Addr) (c : Nat) (nm : ByteArray) (w : World) (hL : L.length ≤ 1000) (hr : Row w w.heap.size A (rawsC L)) :
    Calls Tryz.prog 90 #[.slice A L.length c, .string nm] w fun e w' => e = .returned (.tuple #[.int .i64 (atZ (L.map Prod.snd) nm), .bool (atB (L.map Prod.snd) nm)]) ∧ Below w.heap.size w w' := by
  have HE := Lib.hid (fun (k : Nat) h1 h2 h3 => atZ_eq (Z := L.map Prod.snd) (nm := nm) (k := k) h1 h2 h3)
  have HB := Lib.hid (show atB (L.map Prod.snd) nm = match (L.map Prod.snd)[atZ (L.map Prod.snd) nm]? with | some r => r.m.name.toList == nm.toList | none => false from rfl)
  have HG := Lib.hid (fun (k : Nat) p (h : L[k]? = some p) => (show (L.map Prod.snd)[k]? = some p.2 from by rw [List.getElem?_map, h]; rfl))
  have Hr := Lib.hid hr
  have Hml := Lib.hid ((show (L.map Prod.snd).length = L.length from List.length_map _))
  obtain ⟨n, hn⟩ : ∃ n, L.length = n := ⟨_, rfl⟩
  rw [hn] at hL Hml ⊢
  have Hn := Lib.hid hn
  clear hr hn
  go_enter Tryz.func90, Tryz.ntmps90
  go_wp2_with fail
  go_loopw [6] (fun i wr => ∃ k : Nat, k ≤ n ∧ i = .int .i64 k ∧ (∀ t r, t < k → (L.map Prod.snd)[t]? = some r → nameLt r.m.name nm = true) ∧ Below w.heap.size w wr) (fun i _ => n - (intOf i).toNat)
  case atStart => exact ⟨0, by omega, rfl, fun t r h => absurd h (Nat.not_lt_zero _), Below.refl _ _⟩
  case round =>
    obtain ⟨k, hk, rfl, hq, hbel⟩ := hrel
    have Hbel := Lib.hid hbel
    have Hq := Lib.hid hq
    clear hbel hq
    by_cases hlt : k < n
    · have t1 : (k : Int) < (n : Int) := by omega
      have t2 : (0 : Int) ≤ (k : Int) := by omega
      obtain ⟨p, hp⟩ := list_get (k := k) Hn.out hlt
      obtain ⟨b, off, rfl, hb, hc⟩ := raw_at (Hr.out.later Hbel.out) hp
      have c0 := hc 0 _ (show (rawC p)[0]? = some (.string p.2.m.name) from rfl)
      rw [Nat.add_zero] at c0
      have Hg := Lib.hid (HG.out k p hp)
      have x0 := fun (z : GW wr) => (z.2.cell (p := ⟨b, off + k * 10, none⟩) hb).trans c0
      obtain ⟨x, hx⟩ : ∃ x, p.2.m.name = x := ⟨_, rfl⟩
      rw [hx] at c0 x0
      have Hx := Lib.hid hx
      have hbl := bytesLess_nm x nm
      obtain ⟨lb, hlb⟩ : ∃ lb, nameLt x nm = lb := ⟨_, rfl⟩
      rw [hlb] at hbl
      have Hlb := Lib.hid hlb
      clear hp hc hx hb hlb
      cases lb with
      | true =>
        clear x0
        have Hq2 := Lib.hid (show ∀ t r, t < k + 1 → (L.map Prod.snd)[t]? = some r → nameLt r.m.name nm = true from fun t r ht hr => by
          by_cases htk : t = k
          · subst htk
            rw [Hg.out] at hr
            injection hr with hr
            rw [← hr, Hx.out, Hlb.out]
          · exact Hq.out t r (by omega) hr)
        go_wp2
        go_roundw
        case rel => exact ⟨k + 1, by omega, by go_num, Hq2.out, Hbel.out⟩
        case measure => simp [intOf]; omega
      | false =>
        have hat := HE.out k (by rw [Hml.out]; omega) Hq.out (fun r hr => by
          rw [Hg.out] at hr
          injection hr with hr
          rw [← hr, Hx.out, Hlb.out])
        have hb2 := HB.out
        rw [hat, Hg.out] at hb2
        have hb2 : atB (L.map Prod.snd) nm = (p.2.m.name.toList == nm.toList) := hb2
        rw [Hx.out] at hb2
        obtain ⟨qb, hqb⟩ : ∃ qb, (x.toList == nm.toList) = qb := ⟨_, rfl⟩
        rw [hqb] at hb2
        have Hat := Lib.hid hat
        have Hb2 := Lib.hid hb2
        have t3 : decide ((k : Int) < (n : Int)) = true := decide_eq_true t1
        clear hat hb2
        go_wp2_with fail
        refine wp_region_calm (by kernel_rfl) (by kernel_rfl) ?_
        repeat (go_big_quiet_step (fail))
        refine wpQuiet_nil ?_
        intro w6 hw'
        have B6 := Lib.hid (gw_below hw')
        clear hw' x0 c0
        go_wp2
        refine bodyPost_ret (results_tmp2 Tryz.results90 _ _ _) rfl ?_
        exact ⟨by rw [Hat.out, Hb2.out]; rfl, bnext Hbel.out B6.out⟩
    · have hkn : k = n := by omega
      subst hkn
      have t1 : ¬ ((k : Int) < (k : Int)) := by omega
      have t3 : decide ((k : Int) < (k : Int)) = false := decide_eq_false t1
      have hat := HE.out k (by rw [Hml.out]; omega) Hq.out (fun r hr => absurd (List.getElem?_eq_some_iff.1 hr).1 (by rw [Hml.out]; omega))
      have hb2 := HB.out
      rw [hat, List.getElem?_eq_none (by rw [Hml.out]; omega)] at hb2
      have hb2 : atB (L.map Prod.snd) nm = false := hb2
      have Hat := Lib.hid hat
      have Hb2 := Lib.hid hb2
      clear hat hb2
      go_wp2_with fail
      refine wp_region_calm (by kernel_rfl) (by kernel_rfl) ?_
      repeat (go_big_quiet_step (fail))
      refine wpQuiet_nil ?_
      intro w6 hw'
      have B6 := Lib.hid (gw_below hw')
      clear hw'
      go_wp2
      refine bodyPost_ret (results_tmp2 Tryz.results90 _ _ _) rfl ?_
      exact ⟨by rw [Hat.out, Hb2.out]; rfl, bnext Hbel.out B6.out⟩
theorem inf_strR : (Tryz.prog.info? 9).map (fun i => (i.zero, i.size, i.bytes)) = some (some (.string ⟨#[]⟩), 1, 16) := by kernel_rfl
/-- what Names leaves -/
def NamesP (w : World) (N : List ByteArray) (e : Ending) (w' : World) : Prop := ∃ A c, e = .returned (.slice A N.length c) ∧ Row w' w'.heap.size A (N.map (.string)) ∧ Below w.heap.size w w'
set_option maxRecDepth 100000 in
set_option maxHeartbeats 4000000 in
theorem Names29_any {g size : Nat} {bs : List Nat} {D : List MetaV} {w : World} (h : BankAt w g bs size D) (hs : 0 < size) (hD : D.length ≤ 64) :
    Calls Tryz.prog 66 #[.pointer (some ⟨g, 0, none⟩)] w (NamesP w (D.map (·.name))) := by
  obtain ⟨iS, hiS, hzS0, hzS1, hzS2⟩ := info_parts inf_strR
  have HDi := Lib.hid (BDir_any h hs hD)
  have HTk := Lib.hid (fun (m : Nat) x (h : D[m]? = some x) => (show ((D.map (·.name)).map Value.string).take (m + 1) = ((D.map (·.name)).map Value.string).take m ++ [.string x.name] from by
    rw [List.take_add_one, List.getElem?_map, List.getElem?_map, h]
    rfl))
  have HT0 := Lib.hid (show ((D.map (·.name)).map Value.string).take 0 = [] from rfl)
  have HTn := Lib.hid (show ((D.map (·.name)).map Value.string).take D.length = (D.map (·.name)).map Value.string from List.take_of_length_le (by simp))
  have Hl := Lib.hid (show (D.map (·.name)).length = D.length from List.length_map _)
  obtain ⟨n, hn⟩ : ∃ n, D.length = n := ⟨_, rfl⟩
  rw [hn] at HDi hD HTn Hl
  have Hn := Lib.hid hn
  generalize D.map (·.name) = NM at *
  obtain ⟨VS, hVS⟩ : ∃ VS, NM.map Value.string = VS := ⟨_, rfl⟩
  have HVS := Lib.hid hVS
  rw [hVS] at HTk HT0 HTn
  clear hVS
  clear h hn
  go_enter Tryz.func66, Tryz.ntmps66
  go_wp2_with (go_at_call 24; fail)
  refine HDi.out.mono ?_
  rintro e w1 ⟨Ad, cd, rfl, _, _, _, hown, hb1⟩
  have B1 := Lib.hid hb1
  have RD := Lib.hid (Row.of_own hown)
  clear hown hb1 HDi
  go_wp2_with fail
  go_loopw [3, 9] (fun o i wr => ∃ (m : Nat) (A' : Option Addr) (c' : Nat), m ≤ n ∧ i = .int .i64 m ∧ o = .slice A' m c' ∧ wr.ownsRow w1.heap.size 9 1 (.slice A' m c') m (VS.take m) ∧ Below w1.heap.size w1 wr) (fun _ i _ => n - (intOf i).toNat)
  case atStart => exact ⟨0, none, 0, by omega, rfl, rfl, by rw [HT0.out]; exact World.ownsRow_nil _ _ _ _, Below.refl _ _⟩
  case round =>
    obtain ⟨m, A', c', hm, rfl, rfl, hown, hbel⟩ := hrel
    have Hown := Lib.hid hown
    have Hbel := Lib.hid hbel
    clear hown hbel
    by_cases hlt : m < n
    · have t1 : (m : Int) < (n : Int) := by omega
      have t2 : (0 : Int) ≤ (m : Int) := by omega
      obtain ⟨x, hx⟩ := list_get (k := m) Hn.out hlt
      obtain ⟨b, off, rfl, hbl, hcl⟩ := meta_at (RD.out.later Hbel.out) hx
      have HTk1 := Lib.hid (HTk.out m x hx)
      obtain ⟨nm, len, rate, ch, lp, f, t, sums, first⟩ := x
      have k0 := hcl 0 _ rfl
      have k1 := hcl 1 _ rfl
      have k2 := hcl 2 _ rfl
      have k3 := hcl 3 _ rfl
      have k4 := hcl 4 _ rfl
      have k5 := hcl 5 _ rfl
      have k6 := hcl 6 _ rfl
      have k7 := hcl 7 _ rfl
      have k8 := hcl 8 _ rfl
      rw [Nat.add_zero] at k0
      obtain ⟨w5, hw5⟩ : ∃ w5, wr.alloc (.cells #[.string nm, .int .i64 len, .int .i64 rate, .int .i64 ch, .bool lp, .int .i64 f, .int .i64 t, .int .i64 sums, .int .i64 first] 27) = w5 := ⟨_, rfl⟩
      have Y5 := Lib.hid (show Blk w5 wr.heap.size 27 [.string nm, .int .i64 len, .int .i64 rate, .int .i64 ch, .bool lp, .int .i64 f, .int .i64 t, .int .i64 sums, .int .i64 first] by rw [← hw5]; exact Blk.new wr _ [.string nm, .int .i64 len, .int .i64 rate, .int .i64 ch, .bool lp, .int .i64 f, .int .i64 t, .int .i64 sums, .int .i64 first])
      have B5 := Lib.hid (show Below wr.heap.size wr w5 by rw [← hw5]; exact bnew wr _)
      have y0 := Y5.out.cell 0
      have hB := Hbel.out.size
      have h5 := B5.out.size
      have O5 := Lib.hid (own_below Hown.out B5.out)
      clear hcl hx hbl
      go_wp2_with (at_builtin; refine wpList_app _ rfl (.tmp 13) (.tmp 16) 119 rfl w1.heap.size 9 iS (.string ⟨#[]⟩) 1 16 Tryz.underlying119 hiS hzS0 hzS1 hzS2 rfl (by omega) (.slice A' m c') m (VS.take m) rfl (O5.out.alloc _) (w5.heap.size + 1) (some ⟨w5.heap.size, 0, none⟩) 1 1 [.string nm] rfl rfl (Row.new w5 _ [.string nm]) (fun u hu => by rw [List.mem_singleton] at hu; rw [hu]; rfl) (by omega) (by omega) (by simp; omega) ?_; intro A9 c9 w9 hown9 hgr9 hat9 hcc9)
      go_roundw
      case rel => exact ⟨m + 1, A9, c9, by omega, by go_num, rfl, by rw [HTk1.out]; exact hown9, ((bnext Hbel.out B5.out).alloc (by omega) _).grown hgr9 (by simp; omega) (fun k hk => own_block_ge Hown.out k hk)⟩
      case measure => first | (simp [intOf]; done) | (simp [intOf]; omega)
    · have hmn : m = n := by omega
      subst hmn
      have t1 : ¬ ((m : Int) < (m : Int)) := by omega
      have hown := Hown.out
      rw [HTn.out] at hown
      have HR := Lib.hid (Row.of_own hown)
      clear hown
      go_wp2
      go_ret
      exact ⟨A', c', by rw [Hl.out]; rfl, by rw [HVS.out]; exact HR.out, bnext B1.out Hbel.out⟩
end Go.Proofs.YtgcfkblmnpnogaaGreatDoor

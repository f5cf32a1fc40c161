/- Names, sorted and each once: plain lemmas; contracts of layer 38's Zones and Names; conditions: as each theorem states. -/
import Derived.Test.YthlidkdclhibpaaKitL
import Derived.Test.YthlidkdclhibpaaSampE
namespace Go.Proofs.Ythlidkdclhibpaa
open Go.RowKit Go.Lib Go.Sort

theorem cmpB_cons (x y : UInt8) (r s : List UInt8) : compareBytes (x :: r) (y :: s) = if x < y then -1 else if y < x then 1 else compareBytes r s := rfl
theorem lt_cmp : ∀ (a b : List UInt8), a < b ↔ compareBytes a b < 0
  | [], [] => by simp [compareBytes]
  | [], _ :: _ => by simp [compareBytes]
  | _ :: _, [] => by simp [compareBytes]
  | x :: r, y :: s => by
    rw [List.cons_lt_cons_iff, lt_cmp r s, cmpB_cons]
    constructor
    · rintro (h | ⟨rfl, h⟩)
      · rw [if_pos h]; omega
      · rw [if_neg (UInt8.lt_irrefl x), if_neg (UInt8.lt_irrefl x)]; exact h
    · intro h
      by_cases h1 : x < y
      · exact .inl h1
      · rw [if_neg h1] at h
        by_cases h2 : y < x
        · rw [if_pos h2] at h; omega
        · rw [if_neg h2] at h
          exact .inr ⟨u8_eq (Nat.le_antisymm (u8_nlt h2) (u8_nlt h1)), h⟩
theorem bytesLess_cmp : ∀ (a b : List UInt8), Op.bytesLess a b = decide (compareBytes a b < 0)
  | [], [] => by simp [Op.bytesLess, compareBytes]
  | [], _ :: _ => by simp [Op.bytesLess, compareBytes]
  | _ :: _, [] => by simp [Op.bytesLess, compareBytes]
  | x :: r, y :: s => by
    unfold Op.bytesLess
    rw [bytesLess_cmp r s, cmpB_cons]
    by_cases h1 : x < y
    · rw [if_pos h1]; simp [h1]
    · rw [if_neg h1]
      by_cases h2 : y < x
      · rw [if_pos h2]
        have : x ≠ y := fun h => by subst h; exact h1 h2
        simp [h1, this]
      · rw [if_neg h2]
        have : x = y := u8_eq (Nat.le_antisymm (u8_nlt h2) (u8_nlt h1))
        simp [this]
theorem le_cmp (a b : List UInt8) : a ≤ b ↔ ¬ compareBytes b a < 0 := by rw [← lt_cmp]; exact List.not_lt.symm
/-- the names, rising, each once -/
def onceOf (l : List (List UInt8)) : List (List UInt8) := compact (l.mergeSort fun x y => decide (x ≤ y))

theorem compact_facts (d : Array (List UInt8)) (hs : ∀ i j, i < j → j < d.size → ¬ compareBytes d[j]! d[i]! < 0) : ∀ m, m ≤ d.size →
    (compactUpTo d m).Pairwise (fun x y => compareBytes x y < 0) ∧ (∀ x ∈ compactUpTo d m, ∃ j, j < m ∧ x = d[j]!) ∧ (∀ j, j < m → d[j]! ∈ compactUpTo d m)
  | 0, _ => ⟨by simp [compactUpTo], by simp [compactUpTo], fun j hj => by omega⟩
  | m + 1, hm => by
    obtain ⟨h1, h2, h3⟩ := compact_facts d hs m (by omega)
    rw [compactUpTo_succ]
    by_cases hk : keeps d m = true
    · rw [if_pos hk]
      refine ⟨?_, ?_, ?_⟩
      · rw [List.pairwise_append]
        refine ⟨h1, by simp, fun x hx y hy => ?_⟩
        rw [List.mem_singleton] at hy
        subst hy
        obtain ⟨j, hj, rfl⟩ := h2 x hx
        have hm1 : m - 1 < m := by omega
        have hne : d[m]! ≠ d[m - 1]! := by
          unfold keeps at hk
          have hm0 : m ≠ 0 := by omega
          simpa [hm0] using hk
        have a1 := hs (m - 1) m hm1 (by omega)
        have a2 : ¬ compareBytes d[m - 1]! d[j]! < 0 := by
          rcases Nat.lt_or_ge j (m - 1) with h | h
          · exact hs j (m - 1) h (by omega)
          · obtain rfl : j = m - 1 := by omega
            rw [cmpB_self]; omega
        rcases cmpB_three d[m - 1]! d[m]! with ⟨h4, h5⟩ | ⟨h4, h5⟩ | ⟨_, _, h5⟩
        · rcases cmpB_three d[j]! d[m - 1]! with ⟨h6, _⟩ | ⟨_, h7⟩ | ⟨_, _, h8⟩
          · exact cmpB_trans _ _ _ (by omega) (by omega : compareBytes d[m - 1]! d[m]! < 0)
          · omega
          · rw [h8]; omega
        · omega
        · exact absurd h5.symm hne
      · intro x hx
        rcases List.mem_append.1 hx with h | h
        · obtain ⟨j, hj, he⟩ := h2 x h
          exact ⟨j, by omega, he⟩
        · rw [List.mem_singleton] at h
          exact ⟨m, by omega, h⟩
      · intro j hj
        rcases Nat.lt_or_ge j m with h | h
        · exact List.mem_append_left _ (h3 j h)
        · obtain rfl : j = m := by omega
          exact List.mem_append_right _ (by simp)
    · rw [if_neg hk, List.append_nil]
      refine ⟨h1, fun x hx => by obtain ⟨j, hj, he⟩ := h2 x hx; exact ⟨j, by omega, he⟩, fun j hj => ?_⟩
      rcases Nat.lt_or_ge j m with h | h
      · exact h3 j h
      · obtain rfl : j = m := by omega
        have hj0 : j ≠ 0 := by
          intro h0; subst h0; exact hk (by simp [keeps])
        have he : d[j]! = d[j - 1]! := by
          unfold keeps at hk
          simpa [hj0] using hk
        rw [he]; exact h3 (j - 1) (by omega)
theorem once_facts (l : List (List UInt8)) : (onceOf l).Pairwise (fun x y => compareBytes x y < 0) ∧ ∀ x, x ∈ onceOf l ↔ x ∈ l := by
  have hp := List.mergeSort_perm l (fun x y => decide (x ≤ y))
  have hsort : (l.mergeSort fun x y => decide (x ≤ y)).Pairwise fun x y => decide (x ≤ y) = true := List.pairwise_mergeSort (fun a b c h1 h2 => by
      simp only [decide_eq_true_eq] at *
      rw [le_cmp] at *
      intro h
      rcases cmpB_three a b with ⟨h3, h4⟩ | ⟨h3, h4⟩ | ⟨_, _, h5⟩
      · rcases cmpB_three b c with ⟨h6, _⟩ | ⟨_, h7⟩ | ⟨_, _, h8⟩
        · have := cmpB_trans _ _ _ (by omega : compareBytes a b < 0) (by omega : compareBytes b c < 0)
          rcases cmpB_three a c with ⟨_, _⟩ | ⟨_, _⟩ | ⟨_, _, _⟩ <;> omega
        · omega
        · rw [← h8] at h; omega
      · omega
      · rw [h5] at h; exact h2 h) (fun a b => by
      simp only [Bool.or_eq_true, decide_eq_true_eq]
      rw [le_cmp, le_cmp]
      rcases cmpB_three a b with ⟨_, _⟩ | ⟨_, _⟩ | ⟨_, _, _⟩ <;> omega) l
  unfold onceOf compact
  generalize l.mergeSort (fun x y => decide (x ≤ y)) = S at *
  have hs : ∀ i j, i < j → j < S.toArray.size → ¬ compareBytes S.toArray[j]! S.toArray[i]! < 0 := by
    intro i j hij hj
    have hj' : j < S.length := by simpa using hj
    rw [List.getElem!_toArray, List.getElem!_toArray, getElem!_pos S j hj', getElem!_pos S i (by omega)]
    have := List.pairwise_iff_getElem.1 hsort i j (by omega) hj' hij
    simp only [decide_eq_true_eq] at this
    rwa [le_cmp] at this
  obtain ⟨h1, h2, h3⟩ := compact_facts S.toArray hs S.length (by simp)
  refine ⟨h1, fun x => ⟨fun hx => ?_, fun hx => ?_⟩⟩
  · obtain ⟨j, hj, rfl⟩ := h2 x hx
    rw [List.getElem!_toArray, getElem!_pos S j hj]
    exact hp.subset (List.getElem_mem hj)
  · obtain ⟨j, hj, rfl⟩ := List.mem_iff_getElem.1 (hp.symm.subset hx)
    have := h3 j hj
    rwa [List.getElem!_toArray, getElem!_pos S j hj] at this

theorem cloneZ_nil (cap : Nat) (w : World) : Calls Try.prog 73 #[.slice none 0 cap] w (ZonesPost w []) := by
  have hq := fun (W : World) (a : Option Addr) (n c : Nat) => Lib.run_eql_slice_nil (P := Try.prog) W 45 77 a n c 0 0 Try.underlying45
  go_enter Try.func73, Try.ntmps73
  go_wp2
  go_ret
  exact ⟨none, 0, rfl, Nat.le_refl _, by omega, Row.none_ _ _ _, nofun, Below.refl _ _⟩

set_option maxRecDepth 100000 in
set_option maxHeartbeats 1000000 in
theorem Zones_any (zs : List ZoneV) (g : Nat) (w : World) (hl : zs.length ≤ 1000000) (hk : KitAt w g zs) : Calls Try.prog 46 #[.pointer (some ⟨g, 0, none⟩)] w (ZonesPost w zs) := by
  obtain ⟨A, cap, h1, h2, h3, h4⟩ := hk
  have HQ : Calls Try.prog 73 #[.slice A zs.length cap] w (ZonesPost w zs) := by
    rcases A with _ | ad
    · have h0 : zs = [] := by
        cases zs with
        | nil => rfl
        | cons z r => obtain ⟨b, off, h, _⟩ := h4 0 (.int .i64 z.low) rfl; cases h
      subst h0
      exact cloneZ_nil cap w
    · exact cloneZ_any zs (some ad) cap w hl nofun h4
  have HQ2 := Lib.hid HQ
  clear HQ h4 h2 h3 hl
  generalize zs.length = n at *
  go_enter Try.func46, Try.ntmps46
  go_wp2_with fail
  refine HQ2.out.mono ?_
  rintro e w1 ⟨A1, c1, rfl, k1, k2, k3, k4, k5⟩
  have HP := Lib.hid (show ZonesPost w zs (.returned (.slice A1 zs.length c1)) w1 from ⟨A1, c1, rfl, k1, k2, k3, k4, k5⟩)
  clear k1 k2 k3 k4 k5
  go_wp2_with fail
  go_ret
  exact HP.out

def NamesPost (W : World) (xs : List (List UInt8)) (e : Ending) (w' : World) : Prop := ∃ A c, e = .returned (.slice A xs.length c) ∧ xs.length ≤ 1000000 ∧ xs.length ≤ c ∧ Row w' w'.heap.size A (xs.map encStr) ∧ Below W.heap.size W w'
def zoneNames (zs : List ZoneV) : List (List UInt8) := zs.map fun z => z.name.data.toList
theorem znames_cells (zs : List ZoneV) : (zs.map fun z => Value.string z.name) = (zoneNames zs).map encStr := by
  unfold zoneNames
  rw [List.map_map]
  exact List.map_congr_left fun z _ => str_enc z.name

set_option maxRecDepth 100000 in
set_option maxHeartbeats 4000000 in
theorem Names_any (zs : List ZoneV) (g : Nat) (w : World) (hl : zs.length ≤ 100000) (hk : KitAt w g zs) : Calls Try.prog 47 #[.pointer (some ⟨g, 0, none⟩)] w (NamesPost w (onceOf (zoneNames zs))) := by
  obtain ⟨i0, hi, hz0, hz1, hz2⟩ := info_parts inf_str
  have HZ := Lib.hid (Zones_any zs g w (by omega) hk)
  obtain ⟨n, hn⟩ : ∃ n, zs.length = n := ⟨_, rfl⟩
  rw [hn] at hl
  have Hn := Lib.hid hn
  clear hk hn
  go_enter Try.func47, Try.ntmps47
  go_wp2_with fail
  refine HZ.out.mono ?_
  rintro e w0 ⟨A0, c0', rfl, _, _, hrow, _, hb0⟩
  rw [Hn.out]
  have Hr := Lib.hid hrow
  have Hb0 := Lib.hid hb0
  clear hrow hb0 HZ
  go_wp2_with fail
  go_loopw [3, 9] (fun o i wr => ∃ (k : Nat) (A' : Option Addr) (c : Nat), k ≤ n ∧ i = .int .i64 k ∧ o = .slice A' k c ∧
      wr.ownsRow w0.heap.size 9 1 (.slice A' k c) k ((zs.take k).map fun z => Value.string z.name) ∧ Below w0.heap.size w0 wr) (fun _ i _ => n - (intOf i).toNat)
  case atStart => exact ⟨0, none, 0, Nat.zero_le _, rfl, rfl, World.ownsRow_nil _ _ _ _, Below.refl _ _⟩
  case round =>
    obtain ⟨k, A', c, hk, rfl, rfl, hown, hbel⟩ := hrel
    have Hown := Lib.hid hown
    have Hbel := Lib.hid hbel
    have Hge := Lib.hid (own_block_ge hown)
    clear hown hbel
    by_cases hlt : k < n
    · have t1 : (k : Int) < (n : Int) := by omega
      obtain ⟨z, hz⟩ := list_get (k := k) Hn.out hlt
      obtain ⟨b, off, rfl, hb, hc⟩ := zone_at Hr.out hz
      have HB := Lib.hid (fun j v (hv : z.cells[j]? = some v) => (Hbel.out.cell (p := ⟨b, off + k * 11 + j, none⟩) hb).trans (hc j v hv))
      have c0 := HB.out 0 _ rfl
      have c1 := HB.out 1 _ rfl
      have c2 := HB.out 2 _ rfl
      have c3 := HB.out 3 _ rfl
      have c4 := HB.out 4 _ rfl
      have c5 := HB.out 5 _ rfl
      have c6 := HB.out 6 _ rfl
      have c7 := HB.out 7 _ rfl
      have c8 := HB.out 8 _ rfl
      have c9 := HB.out 9 _ rfl
      have c10 := HB.out 10 _ rfl
      rw [Nat.add_zero] at c0
      have Hz := Lib.hid hz
      have hsz1 := Hbel.out.size
      clear hz hc hb
      go_wp2_with (at_builtin; refine wpList_app _ rfl (.tmp 13) (.tmp 16) 79 rfl w0.heap.size 9 i0 _ 1 16 Try.underlying79 hi hz0 hz1 hz2 rfl (by omega) _ k _ rfl ((Hown.out.alloc _).alloc _) (wr.heap.size + 2) (some ⟨wr.heap.size + 1, 0, none⟩) 1 1 [.string z.name] rfl rfl (by have h := Row.new (wr.alloc (.cells z.cells.toArray 77)) 9 [.string z.name]; simp only [World.size_alloc] at h; exact h) (by intro u hu; simp at hu; subst hu; rfl) (by omega) (by omega) (by simp; omega) ?_; intro A2 cc w2 hown2 hgrow hat hcc)
      go_roundw
      case rel =>
        have hb2 : Below w0.heap.size w0 w2 := ((Hbel.out.alloc (by omega) _).alloc (by simp; omega) _).grown hgrow (by simp; omega) (fun g h => Hge.out g h)
        refine ⟨k + 1, A2, cc, by omega, by go_num, rfl, ?_, hb2⟩
        have hk2 := (List.getElem?_eq_some_iff.1 Hz.out).1
        rw [List.take_succ_eq_append_getElem hk2, List.map_append, (List.getElem?_eq_some_iff.1 Hz.out).2]
        exact hown2
      case measure => simp [intOf]; omega
    · obtain rfl : k = n := by omega
      have hown2 := Hown.out
      rw [List.take_of_length_le (by rw [Hn.out]; omega), znames_cells] at hown2
      have hxl : (zoneNames zs).length = k := by unfold zoneNames; rw [List.length_map]; exact Hn.out
      have hlc := own_len Hown.out
      generalize zoneNames zs = NS at *
      have Hb := Lib.hid (bnext Hb0.out Hbel.out)
      by_cases hk0 : k = 0
      · subst hk0
        have h0 : NS = [] := List.length_eq_zero_iff.1 hxl
        subst h0
        have he : onceOf [] = [] := by simp [onceOf, compact, compactUpTo]
        have He := Lib.hid he
        clear he
        clear hown2 hxl
        go_wp2_with fail
        refine (slices_Sort_string_none A' c wr).mono ?_
        rintro e w' ⟨rfl, rfl⟩
        go_wp2_with fail
        refine (slices_Compact_string_empty A' c _).mono ?_
        rintro e w' ⟨rfl, rfl⟩
        go_wp2_with fail
        go_ret
        rw [He.out]
        exact ⟨A', c, rfl, by simp, by simp, Row.none_ _ _ _, Hb.out⟩
      · obtain ⟨g2, hA, hBg, hg, hH⟩ := holds_strs (by omega) hxl hown2
        subst hA
        have hQ := slices_Sort_string g2 0 c NS wr hH hg (by rw [hxl]; omega)
        have hsl : (NS.mergeSort fun x y => decide (x ≤ y)).length = k := by simp [hxl]
        rw [hxl] at hQ
        have he : onceOf NS = compact (NS.mergeSort fun x y => decide (x ≤ y)) := rfl
        generalize (NS.mergeSort fun x y => decide (x ≤ y)) = S at *
        have He := Lib.hid he
        have HQ := Lib.hid hQ
        have HH2 := Lib.hid (fun n' os => strs_below wr g2 n' S os w0.heap.size hBg hg)
        have HH3 := Lib.hid (fun n' os => holds_grow encStr _ os g2 0 S.toArray (by unfold putRow mapBlock Sort.ahead; simp; exact hg) (holds_putRow encStr (Sort.ahead wr n') g2 0 _ S.toArray (show Holds encStr (Sort.ahead wr n') g2 0 NS.toArray from hH) (by rw [List.size_toArray, List.size_toArray, hsl, hxl])))
        have Hsl := Lib.hid hsl
        have hcl := compact_length_le S
        rw [hsl] at hcl
        clear hown2 hxl hQ hH he hsl
        go_wp2_with fail
        refine HQ.out.mono ?_
        rintro e w1 ⟨rfl, n', os, rfl⟩
        have hb1 := HH2.out n' os
        have hH1 := HH3.out n' os
        have hg1 : g2 < (grow (putRow encStr (Sort.ahead wr n') g2 0 S.toArray) os).heap.size := by
          have h : (putRow encStr (Sort.ahead wr n') g2 0 S.toArray).heap.size = wr.heap.size := by unfold putRow mapBlock Sort.ahead; simp
          simp [h]; omega
        generalize grow (putRow encStr (Sort.ahead wr n') g2 0 S.toArray) os = w1 at *
        have hC := slices_Compact_string g2 0 c S w1 hH1 (by rw [Hsl.out]; omega) (by rw [Hsl.out]; exact hlc)
        rw [Hsl.out] at hC
        have HC := Lib.hid hC
        have Hb1 := Lib.hid (bnext Hb0.out (Hbel.out.trans hb1))
        have HH1 := Lib.hid hH1
        have Hg1 := Lib.hid hg1
        clear hb1 hH1 hg1 HH2 HH3 HQ hC
        go_wp2_with fail
        refine HC.out.mono ?_
        rintro e w2 ⟨rfl, q, rfl⟩
        have hP := holds_putRow encStr (Sort.ahead w1 q) g2 0 _ (compact S ++ List.replicate (k - (compact S).length) []).toArray (show Holds encStr (Sort.ahead w1 q) g2 0 S.toArray from HH1.out) (by rw [List.size_toArray, List.size_toArray, List.length_append, List.length_replicate, Hsl.out]; omega)
        have hsz : (putRow encStr (Sort.ahead w1 q) g2 0 (compact S ++ List.replicate (k - (compact S).length) []).toArray).heap.size = w1.heap.size := by unfold putRow mapBlock Sort.ahead; simp
        have hb2 : Below w0.heap.size w1 (putRow encStr (Sort.ahead w1 q) g2 0 (compact S ++ List.replicate (k - (compact S).length) []).toArray) := by
          have := strs_below w1 g2 q (compact S ++ List.replicate (k - (compact S).length) []) #[] w0.heap.size hBg Hg1.out
          simpa using this
        generalize hw2 : putRow encStr (Sort.ahead w1 q) g2 0 (compact S ++ List.replicate (k - (compact S).length) []).toArray = w2 at *
        have HF := Lib.hid (show NamesPost w (compact S) (.returned (.slice (some ⟨g2, 0, none⟩) (compact S).length c)) w2 from by
          refine ⟨_, c, rfl, by omega, by omega, fun i v hv => ?_, Hb1.out.trans (hb2.mono Hb0.out.size)⟩
          have hi' : i < (compact S).length := by have := (List.getElem?_eq_some_iff.1 hv).1; simpa using this
          refine ⟨g2, 0, rfl, by rw [hsz]; exact Hg1.out, ?_⟩
          have h1 := (hP i (by simp; omega)).1
          rw [h1, List.getElem!_toArray, getElem!_pos _ i (by simp; omega), List.getElem_append_left hi']
          rw [List.getElem?_map, List.getElem?_eq_getElem hi'] at hv
          simpa using hv)
        clear hP hsz hb2 hw2
        go_wp2_with fail
        go_ret
        rw [He.out]
        exact HF.out
end Go.Proofs.Ythlidkdclhibpaa

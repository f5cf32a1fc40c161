/- The law KitNotes; conditions: as each theorem states. -/
import Derived.Test.YtbgkoopfdfnmcaaMidiF
import Derived.Test.YtbgkoopfdfnmcaaMidiG
import Derived.Test.YtbgkoopfdfnmcaaKitL
namespace Go.Proofs.Ytbgkoopfdfnmcaa
open Go.RowKit

theorem msgCells_len (L : List MsgV) : (msgCells L).length = L.length * 5 := by
  unfold msgCells
  rw [flat_len 5 (L.map MsgV.cells) (fun cs hcs => by obtain ⟨z, _, rfl⟩ := List.mem_map.1 hcs; rfl), List.length_map]
theorem msgCells_app (a b : List MsgV) : msgCells (a ++ b) = msgCells a ++ msgCells b := by simp [msgCells]
theorem msg_one (l : List MsgV) : ∀ u ∈ msgCells l, u.oneCell' = true := by
  intro u hu
  unfold msgCells at hu
  obtain ⟨cs, hcs, hu⟩ := List.mem_flatten.1 hu
  obtain ⟨z, _, rfl⟩ := List.mem_map.1 hcs
  simp only [MsgV.cells, List.mem_cons, List.not_mem_nil, or_false] at hu
  rcases hu with rfl | rfl | rfl | rfl | rfl <;> rfl
theorem inf_msg : (Try.prog.info? 30).map (fun i => (i.zero, i.size, i.bytes)) = some (some (.agg #[.int .i64 0, .int .i64 0, .int .i64 0, .int .i64 0, .int .i64 0]), 5, 40) := by kernel_rfl
def FewMPost (W : World) (M : List MsgV) (e : Ending) (w' : World) : Prop := ∃ A c, e = .returned (.slice A M.length c) ∧ Row W W.heap.size A (msgCells M) ∧ W = w'
theorem few37_any (L : List MsgV) (A : Option Addr) (cap : Nat) (w : World) (hl : L.length ≤ cap) (hr : Row w w.heap.size A (msgCells L)) :
    Calls Try.prog 7 #[.slice A L.length cap] w (FewMPost w (L.take 40)) := by
  have hrow : Row w w.heap.size A (msgCells (L.take 40)) := fun i v hv => hr i v (by
    have hsplit : msgCells L = msgCells (L.take 40) ++ msgCells (L.drop 40) := by rw [← msgCells_app, List.take_append_drop]
    rw [hsplit, List.getElem?_append_left (List.getElem?_eq_some_iff.1 hv).1]
    exact hv)
  obtain ⟨n, hn⟩ : ∃ n, L.length = n := ⟨_, rfl⟩
  have hlt : (L.take 40).length = min 40 n := by rw [List.length_take, hn]
  rw [hn] at hl ⊢
  generalize L.take 40 = M at *
  have Hrow := Lib.hid hrow
  have Hlt := Lib.hid hlt
  clear hrow hr hn hlt
  by_cases h : 40 < n
  · have t1 : (40 : Int) < (n : Int) := by omega
    have t2 : (40 : Int) ≤ (cap : Int) := by omega
    have H40 := Lib.hid (show M.length = 40 by rw [Hlt.out]; omega)
    clear Hlt
    go_enter Try.func7, Try.ntmps7
    go_wp2
    go_ret
    exact ⟨A, cap, by rw [H40.out]; rfl, Hrow.out, rfl⟩
  · have t1 : ¬ ((40 : Int) < (n : Int)) := by omega
    have H40 := Lib.hid (show M.length = n by rw [Hlt.out]; omega)
    clear Hlt
    go_enter Try.func7, Try.ntmps7
    go_wp2
    go_ret
    exact ⟨A, cap, by rw [H40.out]; rfl, Hrow.out, rfl⟩
/-- the messages that may be, in order -/
def someTo (L : List MsgV) : Nat → List MsgV × Int
  | 0 => ([], 0)
  | k + 1 => match L[k]? with
    | some m => if rightM m = true ∧ (someTo L k).2 ≤ m.at_ then ((someTo L k).1 ++ [m], m.at_) else someTo L k
    | none => someTo L k
theorem someTo_succ {L : List MsgV} {k : Nat} {m : MsgV} (h : L[k]? = some m) : someTo L (k + 1) = if rightM m = true ∧ (someTo L k).2 ≤ m.at_ then ((someTo L k).1 ++ [m], m.at_) else someTo L k := by
  show (match L[k]? with | some m => _ | none => _) = _
  rw [h]
theorem right_ok {m : MsgV} (h : rightM m = true) : MsgOk m := by
  unfold rightM rangeM at h
  simp only [Bool.and_eq_true, decide_eq_true_eq] at h
  obtain ⟨_, h1, h2, h3, h4, h5, h6⟩ := h
  exact ⟨⟨h1, h2⟩, ⟨by omega, by omega⟩, by omega, by omega⟩
theorem someTo_ok (L : List MsgV) : ∀ k, (∀ m ∈ (someTo L k).1, MsgOk m) ∧ (someTo L k).1.length ≤ k
  | 0 => ⟨fun m hm => by simp [someTo] at hm, by simp [someTo]⟩
  | k + 1 => by
    have ih := someTo_ok L k
    cases hm : L[k]? with
    | none =>
      have e : someTo L (k + 1) = someTo L k := by
        show (match L[k]? with | some m => _ | none => _) = _
        rw [hm]
      rw [e]; exact ⟨ih.1, by omega⟩
    | some m =>
      rw [someTo_succ hm]
      split
      · rename_i h
        refine ⟨fun x hx => ?_, by rw [List.length_append, List.length_singleton]; omega⟩
        rcases List.mem_append.1 hx with h1 | h1
        · exact ih.1 x h1
        · rw [List.mem_singleton] at h1
          rw [h1]; exact right_ok h.1
      · exact ⟨ih.1, by omega⟩
theorem note_at {w : World} {B : Nat} {A : Option Addr} {L : List NoteV} (hr : Row w B A (noteCells L)) {k : Nat} {p : NoteV} (h : L[k]? = some p) :
    ∃ b off, A = some ⟨b, off, none⟩ ∧ b < B ∧ ∀ j v, p.cells[j]? = some v → w.cell? ⟨b, off + k * 9 + j, none⟩ = some v := by
  have hget : ∀ j, j < 9 → (noteCells L)[k * 9 + j]? = p.cells[j]? := fun j hj => by
    unfold noteCells
    rw [flat_get 9 (L.map NoteV.cells) (fun cs hcs => by obtain ⟨z, _, rfl⟩ := List.mem_map.1 hcs; rfl) k j hj]
    simp [h]
  have h0 := hget 0 (by omega)
  obtain ⟨b, off, hA, hb, _⟩ := hr (k * 9 + 0) (.int .i64 p.at_) h0
  refine ⟨b, off, hA, hb, fun j v hv => ?_⟩
  have hj : j < 9 := by have := (List.getElem?_eq_some_iff.1 hv).1; simpa [NoteV.cells] using this
  have h1 := hget j hj
  rw [hv] at h1
  obtain ⟨b', off', hA', _, hc⟩ := hr (k * 9 + j) v h1
  rw [hA] at hA'
  injection hA' with hA'
  injection hA' with e1 e2
  subst e1 e2
  rw [Nat.add_assoc]; exact hc
theorem drainZ_len (e : Int) : ∀ k (p : List SpanV × List SpanV), (drainZ e k p).2.length ≤ p.1.length + p.2.length
  | 0, p => by unfold drainZ; omega
  | k + 1, p => by
    unfold drainZ
    split
    · rename_i s hs
      have hi := (List.getElem?_eq_some_iff.1 hs).1
      have ih := drainZ_len e k (p.1.take (leastZ p.1 p.1.length) ++ p.1.drop (leastZ p.1 p.1.length + 1), p.2 ++ [{ s with to_ := e }])
      simp only [List.length_append, List.length_take, List.length_drop, List.length_singleton] at ih
      omega
    · omega
theorem spansZ_len (L : List MsgV) : (spansZ L).length ≤ L.length := by
  have h1 := drainZ_len (endTo L L.length) (spTo L L.length).1.length (spTo L L.length)
  have h2 := spTo_len L L.length
  unfold spansZ
  omega
theorem noteZ_check {zs : List ZoneV} {s : SpanV} (h : (noteZ zs s).2 = true) : (noteZ zs s).1.check = 0 := by
  unfold noteZ at h ⊢
  split at h
  · cases h
  · rename_i hn
    rw [if_neg hn]
    cases hz : zs[(findZ s.key s.hard zs).toNat]? with
    | none => rw [hz] at h; cases h
    | some z =>
      rw [hz] at h
      simp only at h ⊢
      by_cases hc : (noteOf z s).check = 0
      · rw [if_pos hc]; exact hc
      · rw [if_neg hc] at h; cases h
/-- the notes of the first keys are the first notes -/
theorem noteTo_get {zs : List ZoneV} {l : List SpanV} {i : Nat} {s : SpanV} (hs : l[i]? = some s) (h : (noteZ zs s).2 = true) : ∀ n, i < n → (noteTo zs l n)[(noteTo zs l i).length]? = some (noteZ zs s).1
  | 0, hi => by omega
  | n + 1, hi => by
    by_cases hin : i = n
    · subst hin
      rw [noteTo_succ hs, if_pos h, List.getElem?_append_right (Nat.le_refl _), Nat.sub_self]
      rfl
    · have ih := noteTo_get hs h n (by omega)
      cases ht : l[n]? with
      | none =>
        have e : noteTo zs l (n + 1) = noteTo zs l n := by
          show (match l[n]? with | some s => _ | none => _) = _
          rw [ht]
        rw [e]; exact ih
      | some t =>
        rw [noteTo_succ ht]
        split
        · rw [List.getElem?_append_left (List.getElem?_eq_some_iff.1 ih).1]; exact ih
        · exact ih
set_option maxRecDepth 100000 in
set_option maxHeartbeats 16000000 in
theorem KitNotes_walk (l : List ZoneV) (A : Option Addr) (cap : Nat) (L : List MsgV) (A2 : Option Addr) (cap2 : Nat) (w : World) (hl : l.length ≤ 9223372036854775807) (hr : Row w w.heap.size A (zoneCells l)) (hL : L.length ≤ cap2) (hr2 : Row w w.heap.size A2 (msgCells L)) :
    Calls Try.prog 3 #[.slice A l.length cap, .slice A2 L.length cap2] w fun e w' => e = .returned (.bool true) ∧ Below w.heap.size w w' := by
  obtain ⟨i0, hi, hz0, hz1, hz2⟩ := info_parts inf_msg
  have HMa := Lib.hid (made_any l A cap w hl hr)
  have HFe := Lib.hid (fun W (hW : Below w.heap.size w W) => few37_any L A2 cap2 W hL (hr2.later hW))
  have hzok : ∀ z ∈ madeZ l, z.ok = true := fun z hz => by
    unfold madeZ at hz
    exact (List.mem_filter.1 hz).2
  have hM40 : (L.take 40).length ≤ 40 := by rw [List.length_take]; omega
  generalize l.length = nl at *
  generalize L.length = nL at *
  generalize madeZ l = zs at *
  generalize L.take 40 = M at *
  clear hr hr2 hL hl
  unfold MadePost at HMa
  unfold FewMPost at HFe
  obtain ⟨n, hn⟩ : ∃ n, M.length = n := ⟨_, rfl⟩
  rw [hn] at hM40 HFe
  have Hn := Lib.hid hn
  have Hzok := Lib.hid hzok
  clear hn hzok
  go_enter Try.func3, Try.ntmps3
  go_wp2_with (go_at_call 6; fail)
  refine HMa.out.mono ?_
  rintro e w1 ⟨g, Az, cz, rfl, hk, hrz, hz20, hb1⟩
  have Hk := Lib.hid hk
  have Hrz := Lib.hid hrz
  have E1 := Lib.hid hb1
  clear hk hrz hb1 HMa
  go_wp2_with (go_at_call 7; fail)
  refine (HFe.out _ E1.out).mono ?_
  rintro e w2 ⟨Am, cm, rfl, hrm, rfl⟩
  have Hrm := Lib.hid hrm
  clear hrm HFe
  have Hso := Lib.hid (someTo_ok M)
  go_wp2_with fail
  go_loopw [7, 8, 9] (fun o la v wr => ∃ (k nn : Nat) (A' : Option Addr) (c' : Nat), k ≤ n ∧ v = .int .i64 k ∧ la = .int .i64 (someTo M k).2 ∧ o = .slice A' nn c' ∧ (someTo M k).1.length = nn ∧ wr.ownsRow w1.heap.size 30 5 (.slice A' nn c') nn (msgCells (someTo M k).1) ∧ Below w1.heap.size w1 wr) (fun _ _ v _ => n - (intOf v).toNat)
  case atStart => exact ⟨0, 0, none, 0, by omega, rfl, rfl, rfl, rfl, World.ownsRow_nil _ _ _ _, Below.refl _ _⟩
  case round =>
    obtain ⟨k, nn, A', c', hk, rfl, rfl, rfl, hnn, hown, hbel⟩ := hrel
    have Hnn := Lib.hid hnn
    have Hown := Lib.hid hown
    have Hbel := Lib.hid hbel
    have Hge := Lib.hid (own_block_ge hown)
    have hnk := (Hso.out k).2
    rw [hnn] at hnk
    clear hnn hown hbel
    by_cases hlt : k < n
    · have t1 : (k : Int) < (n : Int) := by omega
      have t2 : (0 : Int) ≤ (k : Int) := by omega
      obtain ⟨m, hm⟩ := list_get (k := k) Hn.out hlt
      have HS := Lib.hid (someTo_succ hm)
      have HRi := Lib.hid (fun W => midiRight_any m W)
      obtain ⟨b, off, rfl, hb, hc⟩ := msg_at Hrm.out hm
      have HC := Lib.hid (fun (W : World) (hW : Below w1.heap.size w1 W) j v (hv : m.cells[j]? = some v) => (show W.cell? ⟨b, off + k * 5 + j, none⟩ = some v from (hW.cell (p := ⟨b, off + k * 5 + j, none⟩) hb).trans (hc j v hv)))
      obtain ⟨mt, mk, mc, ma, mb⟩ := m
      have k0 := HC.out wr Hbel.out 0 _ rfl
      have k1 := HC.out wr Hbel.out 1 _ rfl
      have k2 := HC.out wr Hbel.out 2 _ rfl
      have k3 := HC.out wr Hbel.out 3 _ rfl
      have k4 := HC.out wr Hbel.out 4 _ rfl
      rw [Nat.add_zero] at k0
      have HRi2 := Lib.hid (show ∀ W, Calls Try.prog 8 #[.agg #[.int .i64 mt, .int .i64 mk, .int .i64 mc, .int .i64 ma, .int .i64 mb]] W _ from HRi.out)
      obtain ⟨q, hq⟩ : ∃ q, rightM ⟨mt, mk, mc, ma, mb⟩ = q := ⟨_, rfl⟩
      rw [hq] at HRi2 HS
      have Hone := Lib.hid (msg_one [⟨mt, mk, mc, ma, mb⟩])
      obtain ⟨la, hla⟩ : ∃ la, (someTo M k).2 = la := ⟨_, rfl⟩
      rw [hla] at HS ⊢
      clear hm hb hc hq HRi
      cases q
      · have HS2 := Lib.hid (show someTo M (k + 1) = someTo M k by rw [HS.out]; simp)
        go_wp2_with (go_at_call 8; refine (HRi2.out _).mono ?_; rintro e w3 ⟨rfl, hb3⟩)
        go_roundw
        case rel => exact ⟨k + 1, nn, A', c', by omega, by go_num, by rw [HS2.out, hla], rfl, by rw [HS2.out]; exact Hnn.out, by rw [HS2.out]; exact own_below Hown.out hb3, bnext Hbel.out hb3⟩
        case measure => simp [intOf]; omega
      · by_cases hge : la ≤ mt
        · have t3 : decide (la ≤ mt) = true := decide_eq_true hge
          have HS2 := Lib.hid (show someTo M (k + 1) = ((someTo M k).1 ++ [⟨mt, mk, mc, ma, mb⟩], mt) by rw [HS.out, if_pos ⟨rfl, hge⟩])
          clear hge HS
          have hzw := Hbel.out.size
          go_wp2_with (first | (go_at_call 8; refine (HRi2.out _).mono ?_; rintro e w3 ⟨rfl, hb3⟩; have O3 := own_below Hown.out hb3; have B3 := bnext Hbel.out hb3; have hz3 := hb3.size; have j0 : w3.cell? ⟨b, off + k * 5, none⟩ = some (.int .i64 mt) := (by have h := HC.out w3 B3 0 _ rfl; rwa [Nat.add_zero] at h); have j1 := HC.out w3 B3 1 _ rfl; have j2 := HC.out w3 B3 2 _ rfl; have j3 := HC.out w3 B3 3 _ rfl; have j4 := HC.out w3 B3 4 _ rfl) | (at_builtin; refine wpList_app _ rfl (.tmp 45) (.tmp 50) 23 rfl w1.heap.size 30 i0 _ 5 40 Try.underlying23 hi hz0 hz1 hz2 rfl (by omega) (.slice A' nn c') nn (msgCells (someTo M k).1) rfl (O3.alloc _) (w3.heap.size + 1) (some ⟨w3.heap.size, 0, none⟩) 1 1 [.int .i64 mt, .int .i64 mk, .int .i64 mc, .int .i64 ma, .int .i64 mb] rfl rfl (Row.new w3 _ _) Hone.out (by omega) (by omega) (by simp; omega) ?_; intro A3 c3 w5 hown5 hgr5 hat5 hcc5; have B5 := (B3.alloc (by omega) (.cells #[.int .i64 mt, .int .i64 mk, .int .i64 mc, .int .i64 ma, .int .i64 mb] 30)).grown hgr5 (by simp; omega) (fun g h => Hge.out g h); have i5 : w5.cell? ⟨b, off + k * 5, none⟩ = some (.int .i64 mt) := (by have h := HC.out w5 B5 0 _ rfl; rwa [Nat.add_zero] at h)))
          go_roundw
          case rel => exact ⟨k + 1, nn + 1, A3, c3, by omega, by go_num, by rw [HS2.out], rfl, by rw [HS2.out, List.length_append, Hnn.out]; rfl, by rw [HS2.out, msgCells_app]; exact hown5, B5⟩
          case measure => simp [intOf]; omega
        · have t3 : decide (la ≤ mt) = false := decide_eq_false hge
          have HS2 := Lib.hid (show someTo M (k + 1) = someTo M k by rw [HS.out, if_neg (fun h => hge h.2)])
          clear hge HS
          go_wp2_with (go_at_call 8; refine (HRi2.out _).mono ?_; rintro e w3 ⟨rfl, hb3⟩; have j0 : w3.cell? ⟨b, off + k * 5, none⟩ = some (.int .i64 mt) := (by have h := HC.out w3 (bnext Hbel.out hb3) 0 _ rfl; rwa [Nat.add_zero] at h))
          go_roundw
          case rel => exact ⟨k + 1, nn, A', c', by omega, by go_num, by rw [HS2.out, hla], rfl, by rw [HS2.out]; exact Hnn.out, by rw [HS2.out]; exact own_below Hown.out hb3, bnext Hbel.out hb3⟩
          case measure => simp [intOf]; omega
    · have hkn : k = n := by omega
      subst hkn
      have t1 : ¬ ((k : Int) < (k : Int)) := by omega
      have hok1 := (Hso.out k).1
      obtain ⟨SM, hSM⟩ : ∃ SM, (someTo M k).1 = SM := ⟨_, rfl⟩
      have hown := Hown.out
      have hnn := Hnn.out
      rw [hSM] at hok1 hown hnn
      have hspl := spansZ_len SM
      rw [hnn] at hspl
      have hrow := Row.of_own hown
      have HNs := Lib.hid (show Calls Try.prog 9 #[.pointer (some ⟨g, 0, none⟩), .slice A' nn c'] wr (NotesPost wr (noteTo zs (spansZ SM) (spansZ SM).length)) from by
        have h := Notes_any zs g SM A' c' wr (by omega) (by omega) (Hk.out.later Hbel.out) Hzok.out hrow hok1 (by omega)
        rwa [hnn] at h)
      have HSs := Lib.hid (fun W (hW : Below wr.heap.size wr W) => (show Calls Try.prog 10 #[.slice A' nn c'] W (SpansPost W (spansZ SM)) from by
        have h := Spans_any SM A' c' W (by omega) (hrow.later hW) (fun m hm => (hok1 m hm).1)
        rwa [hnn] at h))
      have HSok := Lib.hid (spansZ_ok hok1)
      generalize spansZ SM = SP at *
      obtain ⟨ns, hns⟩ : ∃ ns, SP.length = ns := ⟨_, rfl⟩
      rw [hns] at hspl HNs
      unfold NotesPost at HNs
      unfold SpansPost at HSs
      rw [hns] at HSs
      have Hns := Lib.hid hns
      obtain ⟨G, hG⟩ : ∃ G, noteTo zs SP ns = G := ⟨_, rfl⟩
      rw [hG] at HNs
      have HG := Lib.hid hG
      have HEw := Lib.hid (show Below w.heap.size w wr from bnext E1.out Hbel.out)
      have Hk2 := Lib.hid (Hk.out.later Hbel.out)
      have Hrz2 := Lib.hid (Hrz.out.later Hbel.out)
      clear hSM hown hnn hrow hok1 hns hG Hge Hown Hnn
      go_wp2_with (go_at_call 9; fail)
      refine HNs.out.mono ?_
      rintro e w3 ⟨Ag, cg, rfl, _, _, hrg, hb3⟩
      obtain ⟨ng, hng⟩ : ∃ ng, G.length = ng := ⟨_, rfl⟩
      rw [hng]
      have Hng := Lib.hid hng
      have Hrg := Lib.hid hrg
      have E3 := Lib.hid hb3
      clear hng hrg hb3
      go_wp2_with (go_at_call 10; fail)
      refine (HSs.out w3 E3.out).mono ?_
      rintro e w4 ⟨As, cs, rfl, _, _, hrs, hb4⟩
      have Hrs := Lib.hid hrs
      have E4 := Lib.hid (bnext E3.out hb4)
      have Hrg4 := Lib.hid (Hrg.out.later hb4)
      clear hrs hb4
      go_wp2_with fail
      go_loopw [12, 13] (fun cn v wx => ∃ i : Nat, i ≤ ns ∧ v = .int .i64 i ∧ cn = .int .i64 (noteTo zs SP i).length ∧ Below w4.heap.size w4 wx) (fun _ v _ => ns - (intOf v).toNat)
      case atStart => exact ⟨0, by omega, rfl, rfl, Below.refl _ _⟩
      case round =>
        obtain ⟨i, hi5, rfl, rfl, hbx⟩ := hrel
        have Hbx := Lib.hid hbx
        clear hbx
        by_cases hli : i < ns
        · have t3 : (i : Int) < (ns : Int) := by omega
          have t4 : (0 : Int) ≤ (i : Int) := by omega
          obtain ⟨s, hs⟩ := list_get (k := i) Hns.out hli
          have HT := Lib.hid (noteTo_succ (zs := zs) hs)
          have hsok := HSok.out s (List.mem_of_getElem? hs)
          have HGet := Lib.hid (fun (h : (noteZ zs s).2 = true) => noteTo_get hs h ns hli)
          have HChk := Lib.hid (fun (h : (noteZ zs s).2 = true) => noteZ_check h)
          have HLn := Lib.hid (fun W (hW : Below wr.heap.size wr W) => lawnote38_any zs Az cz s W (by omega) (Hrz2.out.later (bnext E4.out (bnext Hbx.out hW))) Hzok.out hsok)
          have HKn := Lib.hid (fun W (hW : Below wr.heap.size wr W) => kitNote_any zs g s W (by omega) (Hk2.out.later (bnext E4.out (bnext Hbx.out hW))) Hzok.out hsok)
          obtain ⟨b, off, rfl, hb, hc⟩ := span_at Hrs.out hs
          have HC := Lib.hid (fun (W : World) (hW : Below wr.heap.size wr W) j v (hv : s.cells[j]? = some v) => (show W.cell? ⟨b, off + i * 5 + j, none⟩ = some v from ((bnext Hbx.out hW).cell (p := ⟨b, off + i * 5 + j, none⟩) hb).trans (hc j v hv)))
          have HCk := Lib.hid (fun W => tuneCheck_any (noteZ zs s).1 W)
          obtain ⟨sc, sk, sf, st, sh⟩ := s
          obtain ⟨x, hx⟩ : ∃ x, (noteZ zs ⟨sc, sk, sf, st, sh⟩).1 = x := ⟨_, rfl⟩
          obtain ⟨q, hq⟩ : ∃ q, (noteZ zs ⟨sc, sk, sf, st, sh⟩).2 = q := ⟨_, rfl⟩
          rw [hx] at HT HGet HChk HLn HKn HCk
          rw [hq] at HT HGet HChk HLn HKn
          obtain ⟨na, nn2, nst, nln, nvl, xa, xd, xs, xr⟩ := x
          have HLn2 := Lib.hid (show ∀ W, Below wr.heap.size wr W → Calls Try.prog 11 #[.slice Az zs.length cz, .agg #[.int .i64 sc, .int .i64 sk, .int .i64 sf, .int .i64 st, .int .i64 sh]] W (fun e w' => e = .returned (.tuple #[.agg #[.int .i64 na, .string nn2, .int .i64 nst, .int .i64 nln, .int .i64 nvl, .int .i64 xa, .int .i64 xd, .int .i64 xs, .int .i64 xr], .bool q]) ∧ Below W.heap.size W w') from HLn.out)
          have HKn2 := Lib.hid (show ∀ W, Below wr.heap.size wr W → Calls Try.prog 12 #[.pointer (some ⟨g, 0, none⟩), .agg #[.int .i64 sc, .int .i64 sk, .int .i64 sf, .int .i64 st, .int .i64 sh]] W (fun e w' => e = .returned (.tuple #[.agg #[.int .i64 na, .string nn2, .int .i64 nst, .int .i64 nln, .int .i64 nvl, .int .i64 xa, .int .i64 xd, .int .i64 xs, .int .i64 xr], .bool q]) ∧ Below W.heap.size W w') from HKn.out)
          have k0 := HC.out wr (Below.refl _ _) 0 _ rfl
          have k1 := HC.out wr (Below.refl _ _) 1 _ rfl
          have k2 := HC.out wr (Below.refl _ _) 2 _ rfl
          have k3 := HC.out wr (Below.refl _ _) 3 _ rfl
          have k4 := HC.out wr (Below.refl _ _) 4 _ rfl
          rw [Nat.add_zero] at k0
          clear hs hb hc hx hq HLn HKn hsok
          go_wp2_with (go_at_call 11; fail)
          refine (HLn2.out wr (Below.refl _ _)).mono ?_
          rintro e w5 ⟨rfl, hb5⟩
          obtain ⟨w6, hw6⟩ : ∃ w6, w5.alloc (.cells #[.int .i64 na, .string nn2, .int .i64 nst, .int .i64 nln, .int .i64 nvl, .int .i64 xa, .int .i64 xd, .int .i64 xs, .int .i64 xr] 38) = w6 := ⟨_, rfl⟩
          have HX6 := Lib.hid (show Blk w6 w5.heap.size 38 [.int .i64 na, .string nn2, .int .i64 nst, .int .i64 nln, .int .i64 nvl, .int .i64 xa, .int .i64 xd, .int .i64 xs, .int .i64 xr] by rw [← hw6]; exact Blk.new w5 _ [.int .i64 na, .string nn2, .int .i64 nst, .int .i64 nln, .int .i64 nvl, .int .i64 xa, .int .i64 xd, .int .i64 xs, .int .i64 xr])
          have E6 := Lib.hid (show Below wr.heap.size wr w6 by rw [← hw6]; exact bnext hb5 (bnew w5 _))
          have j0 := HC.out w6 E6.out 0 _ rfl
          have j1 := HC.out w6 E6.out 1 _ rfl
          have j2 := HC.out w6 E6.out 2 _ rfl
          have j3 := HC.out w6 E6.out 3 _ rfl
          have j4 := HC.out w6 E6.out 4 _ rfl
          rw [Nat.add_zero] at j0
          clear k0 k1 k2 k3 k4 hb5
          go_wp2_with (go_at_call 12; fail)
          refine (HKn2.out w6 E6.out).mono ?_
          rintro e w7 ⟨rfl, hb7⟩
          obtain ⟨w8, hw8⟩ : ∃ w8, w7.alloc (.cells #[.int .i64 na, .string nn2, .int .i64 nst, .int .i64 nln, .int .i64 nvl, .int .i64 xa, .int .i64 xd, .int .i64 xs, .int .i64 xr] 38) = w8 := ⟨_, rfl⟩
          have HX8 := Lib.hid (show Blk w8 w7.heap.size 38 [.int .i64 na, .string nn2, .int .i64 nst, .int .i64 nln, .int .i64 nvl, .int .i64 xa, .int .i64 xd, .int .i64 xs, .int .i64 xr] by rw [← hw8]; exact Blk.new w7 _ [.int .i64 na, .string nn2, .int .i64 nst, .int .i64 nln, .int .i64 nvl, .int .i64 xa, .int .i64 xd, .int .i64 xs, .int .i64 xr])
          have E68 := Lib.hid (show Below w6.heap.size w6 w8 by rw [← hw8]; exact bnext hb7 (bnew w7 _))
          have HX68 := Lib.hid (HX6.out.below E68.out HX6.out.lt)
          have E8 := Lib.hid (bnext E6.out E68.out)
          have x8 : ∀ j, w8.cell? ⟨w7.heap.size, j, none⟩ = ([.int .i64 na, .string nn2, .int .i64 nst, .int .i64 nln, .int .i64 nvl, .int .i64 xa, .int .i64 xd, .int .i64 xs, .int .i64 xr] : List Value)[j]? := blk_cells HX8.out
          have x6 : ∀ j, w8.cell? ⟨w5.heap.size, j, none⟩ = ([.int .i64 na, .string nn2, .int .i64 nst, .int .i64 nln, .int .i64 nvl, .int .i64 xa, .int .i64 xd, .int .i64 xs, .int .i64 xr] : List Value)[j]? := blk_cells HX68.out
          clear j0 j1 j2 j3 j4 hw6 hb7
          cases q
          · have HT2 := Lib.hid (show noteTo zs SP (i + 1) = noteTo zs SP i from HT.out)
            clear HT HGet HChk
            go_wp2
            go_roundw
            case rel => exact ⟨i + 1, by omega, by go_num, by rw [HT2.out], bnext Hbx.out E8.out⟩
            case measure => simp [intOf]; omega
          · have HT2 := Lib.hid (show noteTo zs SP (i + 1) = noteTo zs SP i ++ [⟨na, nn2, nst, nln, nvl, xa, xd, xs, xr⟩] from HT.out)
            have hget := HGet.out rfl
            rw [HG.out] at hget
            have hck := HChk.out rfl
            have HCk2 := Lib.hid (fun (z : GW w8) => (show Calls Try.prog 13 #[.agg #[.int .i64 na, .string nn2, .int .i64 nst, .int .i64 nln, .int .i64 nvl, .int .i64 xa, .int .i64 xd, .int .i64 xs, .int .i64 xr]] z.1 (fun e w' => e = .returned (.int .i64 0) ∧ Below z.1.heap.size z.1 w') from by
              have h := HCk.out z.1
              rw [hck] at h
              exact h))
            obtain ⟨nt, hnt⟩ : ∃ nt, (noteTo zs SP i).length = nt := ⟨_, rfl⟩
            rw [hnt] at hget ⊢
            have Hnt := Lib.hid hnt
            have hlt5 : nt < ng := by rw [← Hng.out]; exact (List.getElem?_eq_some_iff.1 hget).1
            obtain ⟨bg, og, rfl, hbg, hcg⟩ := note_at Hrg4.out hget
            have HZg := Lib.hid (fun (z : GW w8) j v (hv : ([.int .i64 na, .string nn2, .int .i64 nst, .int .i64 nln, .int .i64 nvl, .int .i64 xa, .int .i64 xd, .int .i64 xs, .int .i64 xr] : List Value)[j]? = some v) => (show z.1.cell? ⟨bg, og + nt * 9 + j, none⟩ = some v from ((bnext Hbx.out (bnext E8.out z.2)).cell (p := ⟨bg, og + nt * 9 + j, none⟩) hbg).trans (hcg j v hv)))
            have HZ6 := Lib.hid (fun (z : GW w8) j v (hv : ([.int .i64 na, .string nn2, .int .i64 nst, .int .i64 nln, .int .i64 nvl, .int .i64 xa, .int .i64 xd, .int .i64 xs, .int .i64 xr] : List Value)[j]? = some v) => (show z.1.cell? ⟨w5.heap.size, 0 + j, none⟩ = some v from by
              rw [Nat.zero_add]
              exact (z.2.cell (p := ⟨w5.heap.size, j, none⟩) HX68.out.lt).trans ((x6 j).trans hv)))
            have HFn := Lib.hid (show (Try.prog.info? 38).map (·.size) = some 9 by kernel_rfl)
            have hngb : ng ≤ ns := by rw [← Hng.out, ← HG.out]; exact noteTo_len zs SP ns
            have hnt40 : nt ≤ 40 := by omega
            have t5 : (nt : Int) < (ng : Int) := by omega
            have t6 : (0 : Int) ≤ (nt : Int) := by omega
            have t7 : decide ((ng : Int) ≤ (nt : Int)) = false := decide_eq_false (by omega)
            have t8 : decide (ng ≤ nt) = false := decide_eq_false (by omega)
            clear HT HGet HChk hget hck hbg hcg hnt
            go_wp2_with fail
            clear x8 x6 hw8
            refine wp_region_calm (by kernel_rfl) (by kernel_rfl) ?_
            repeat (first | (go_big_quiet_want; refine quiet_load_part 38 (.tmp 103) rfl bg (og + nt * 9) rfl [.int .i64 na, .string nn2, .int .i64 nst, .int .i64 nln, .int .i64 nvl, .int .i64 xa, .int .i64 xd, .int .i64 xs, .int .i64 xr] _ (by rintro _ ⟨z, rfl⟩; exact HZg.out z) Try.underlying38 rfl HFn.out ?_; go_simp; go_big_quiet_on) | (go_big_quiet_want; refine quiet_load_part 38 (.tmp 111) rfl bg (og + nt * 9) rfl [.int .i64 na, .string nn2, .int .i64 nst, .int .i64 nln, .int .i64 nvl, .int .i64 xa, .int .i64 xd, .int .i64 xs, .int .i64 xr] _ (by rintro _ ⟨z, rfl⟩; exact HZg.out z) Try.underlying38 rfl HFn.out ?_; go_simp; go_big_quiet_on) | (go_big_quiet_want; refine quiet_load_part 38 (.tmp 14) rfl w5.heap.size 0 rfl [.int .i64 na, .string nn2, .int .i64 nst, .int .i64 nln, .int .i64 nvl, .int .i64 xa, .int .i64 xd, .int .i64 xs, .int .i64 xr] _ (by rintro _ ⟨z, rfl⟩; exact HZ6.out z) Try.underlying38 rfl HFn.out ?_; go_simp; go_big_quiet_on) | go_big_quiet_step ((go_at_call 13; exact calm_call (HCk2.out _))))
            refine wpQuiet_nil ?_
            intro w9 hw'
            have B9 := Lib.hid (bnext E8.out (gw_below hw'))
            clear hw'
            go_wp2
            go_roundw
            case rel => exact ⟨i + 1, by omega, by go_num, by rw [HT2.out, List.length_append, Hnt.out, List.length_singleton]; first | rfl | (push_cast; rfl) | (congr 1), bnext Hbx.out B9.out⟩
            case measure => simp [intOf]; omega
        · have hin : i = ns := by omega
          subst hin
          have t3 : ¬ ((i : Int) < (i : Int)) := by omega
          have hng := Hng.out
          rw [← HG.out] at hng
          have t4 : (((noteTo zs SP i).length : Nat) : Int) = (ng : Int) := by rw [hng]
          have Ht4 := Lib.hid t4
          have HAw := Lib.hid (awake38_any wr)
          rw [hng]
          clear t4 hng
          go_wp2_with (go_at_call 14; refine HAw.out.mono ?_; rintro e w9 ⟨rfl, hb9⟩)
          go_ret
          exact ⟨rfl, bnext HEw.out (bnext E4.out (bnext Hbx.out hb9))⟩
abbrev msgTy : Ty := .pair (.int .i64) 1 (.pair (.int .i64) 1 (.pair (.int .i64) 1 (.pair (.int .i64) 1 (.pair (.int .i64) 1 (.unit)))))
theorem msg_shape {w : World} {cs : List Value} (h : Shape w msgTy cs) : ∃ z : MsgV, cs = z.cells := by
  obtain ⟨c1, r1, rfl, ⟨a, rfl, _, _⟩, c2, r2, rfl, ⟨b, rfl, _, _⟩, c3, r3, rfl, ⟨c, rfl, _, _⟩, c4, r4, rfl, ⟨d, rfl, _, _⟩, c5, r5, rfl, ⟨e, rfl, _, _⟩, rfl⟩ := h
  exact ⟨⟨a, b, c, d, e⟩, rfl⟩
theorem msgs_arg {w : World} {v : Value} (h : Arg w (.slice 5 msgTy) v) : ∃ (l : List MsgV) (A : Option Addr) (cap : Nat), v = .slice A l.length cap ∧ l.length ≤ cap ∧ Row w w.heap.size A (msgCells l) := by
  obtain ⟨a, len, cap, hv, h1, h2, h3, h4⟩ := h
  obtain ⟨css, hl, _, hs, hrow⟩ := rows_of_shape h4
  obtain ⟨l, rfl⟩ := map_of css (fun cs hcs => msg_shape (hs cs hcs))
  rw [List.length_map] at hl
  injection hv with hv
  subst hv hl
  exact ⟨l, a, cap, rfl, h1, hrow⟩
theorem KitNotes_law (W : World) (v0 v1 : Value) (a0 : Arg W (.slice 11 zoneTy) v0) (a1 : Arg W (.slice 5 msgTy) v1) :
    Calls Try.prog 3 #[v0, v1] W fun e w' => e = .returned (.bool true) ∧ Below W.heap.size W w' := by
  obtain ⟨l, A, cap, rfl, h1, h2, _, hrow⟩ := zones_arg a0
  obtain ⟨L, A2, cap2, rfl, h3, hrow2⟩ := msgs_arg a1
  exact KitNotes_walk l A cap L A2 cap2 W (by omega) hrow h3 hrow2
end Go.Proofs.Ytbgkoopfdfnmcaa

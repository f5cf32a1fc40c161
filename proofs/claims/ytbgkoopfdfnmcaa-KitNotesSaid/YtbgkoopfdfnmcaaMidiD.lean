/- Contract of layer 37's Spans; conditions: as each theorem states. -/
import Derived.Test.YtbgkoopfdfnmcaaMidiC
import Derived.Test.YtbgkoopfdfnmcaaHeaps
namespace Go.Proofs.Ytbgkoopfdfnmcaa
open Go.RowKit

def msgCells (L : List MsgV) : List Value := (L.map MsgV.cells).flatten
theorem msg_at {w : World} {B : Nat} {A : Option Addr} {L : List MsgV} (hr : Row w B A (msgCells L)) {k : Nat} {p : MsgV} (h : L[k]? = some p) :
    ∃ b off, A = some ⟨b, off, none⟩ ∧ b < B ∧ ∀ j v, p.cells[j]? = some v → w.cell? ⟨b, off + k * 5 + j, none⟩ = some v := by
  have hget : ∀ j, j < 5 → (msgCells L)[k * 5 + j]? = p.cells[j]? := fun j hj => by
    unfold msgCells
    rw [flat_get 5 (L.map MsgV.cells) (fun cs hcs => by obtain ⟨z, _, rfl⟩ := List.mem_map.1 hcs; rfl) k j hj]
    simp [h]
  have h0 := hget 0 (by omega)
  obtain ⟨b, off, hA, hb, _⟩ := hr (k * 5 + 0) (.int .i64 p.at_) h0
  refine ⟨b, off, hA, hb, fun j v hv => ?_⟩
  have hj : j < 5 := by have := (List.getElem?_eq_some_iff.1 hv).1; simpa [MsgV.cells] using this
  have h1 := hget j hj
  rw [hv] at h1
  obtain ⟨b', off', hA', _, hc⟩ := hr (k * 5 + j) v h1
  rw [hA] at hA'
  injection hA' with hA'
  injection hA' with e1 e2
  subst e1 e2
  rw [Nat.add_assoc]; exact hc
def stepS (p : List SpanV × List SpanV) (m : MsgV) : List SpanV × List SpanV :=
  let q := if m.kind = 128 ∨ m.kind = 144 then ((letZ m p.1).1, p.2 ++ (letZ m p.1).2.toList) else p
  if m.kind = 144 ∧ 0 < m.b then (q.1 ++ [⟨m.ch, m.a, m.at_, 0, m.b⟩], q.2) else q
def spTo (L : List MsgV) : Nat → List SpanV × List SpanV
  | 0 => ([], [])
  | k + 1 => match L[k]? with
    | some m => stepS (spTo L k) m
    | none => spTo L k
def endTo (L : List MsgV) : Nat → Int
  | 0 => 0
  | k + 1 => match L[k]? with
    | some m => max (endTo L k) m.at_
    | none => endTo L k
theorem spTo_succ {L : List MsgV} {k : Nat} {m : MsgV} (h : L[k]? = some m) : spTo L (k + 1) = stepS (spTo L k) m := by
  show (match L[k]? with | some m => _ | none => _) = _
  rw [h]
theorem endTo_succ {L : List MsgV} {k : Nat} {m : MsgV} (h : L[k]? = some m) : endTo L (k + 1) = max (endTo L k) m.at_ := by
  show (match L[k]? with | some m => _ | none => _) = _
  rw [h]
theorem letZ_len (m : MsgV) : ∀ l : List SpanV, (letZ m l).1.length + (letZ m l).2.toList.length = l.length
  | [] => rfl
  | s :: r => by
    unfold letZ
    split
    · simp
    · have := letZ_len m r
      simp only [List.length_cons]
      omega
theorem stepS_len (p : List SpanV × List SpanV) (m : MsgV) : (stepS p m).1.length + (stepS p m).2.length ≤ p.1.length + p.2.length + 1 := by
  have hl := letZ_len m p.1
  unfold stepS
  by_cases h1 : m.kind = 128 ∨ m.kind = 144
  · rw [if_pos h1]
    by_cases h2 : m.kind = 144 ∧ 0 < m.b
    · rw [if_pos h2]
      simp only [List.length_append, List.length_cons, List.length_nil]
      omega
    · rw [if_neg h2]
      simp only [List.length_append]
      omega
  · rw [if_neg h1]
    by_cases h2 : m.kind = 144 ∧ 0 < m.b
    · rw [if_pos h2]
      simp only [List.length_append, List.length_cons, List.length_nil]
      omega
    · rw [if_neg h2]
      omega
theorem spTo_len (L : List MsgV) : ∀ k, (spTo L k).1.length + (spTo L k).2.length ≤ k
  | 0 => by simp [spTo]
  | k + 1 => by
    have ih := spTo_len L k
    unfold spTo
    split
    · have := stepS_len (spTo L k) (by assumption)
      omega
    · omega
/-- the least key among the first ones -/
def leastZ (h : List SpanV) : Nat → Nat
  | 0 => 0
  | j + 1 => match h[j]?, h[leastZ h j]? with
    | some s, some t => if s.ch < t.ch ∨ (s.ch = t.ch ∧ s.key < t.key) then j else leastZ h j
    | _, _ => leastZ h j
theorem leastZ_lt (h : List SpanV) (h0 : 0 < h.length) : ∀ j, j ≤ h.length → leastZ h j < h.length
  | 0, _ => h0
  | j + 1, hj => by
    have ih := leastZ_lt h h0 j (by omega)
    unfold leastZ
    split
    · split <;> omega
    · exact ih
/-- the keys that are left are let go, by their order -/
def drainZ (e : Int) : Nat → List SpanV × List SpanV → List SpanV × List SpanV
  | 0, p => p
  | k + 1, p => match p.1[leastZ p.1 p.1.length]? with
    | some s => drainZ e k (p.1.take (leastZ p.1 p.1.length) ++ p.1.drop (leastZ p.1 p.1.length + 1), p.2 ++ [{ s with to_ := e }])
    | none => p
def spansZ (L : List MsgV) : List SpanV := (drainZ (endTo L L.length) (spTo L L.length).1.length (spTo L L.length)).2
def SpansPost (W : World) (L : List SpanV) (e : Ending) (w' : World) : Prop := ∃ A c, e = .returned (.slice A L.length c) ∧ L.length ≤ c ∧ c ≤ 9223372036854775807 ∧ Row w' w'.heap.size A (spanCells L) ∧ Below W.heap.size W w'
def heldMu (ph : Nat) (w : World) : Nat := match w.cell? ⟨ph, 0, none⟩ with
  | some (.slice _ n _) => n
  | _ => 0
theorem heldMu_at {w : World} {ph : Nat} {A : Option Addr} {n c : Nat} (h : w.cell? ⟨ph, 0, none⟩ = some (.slice A n c)) : heldMu ph w = n := by
  unfold heldMu
  rw [h]
theorem leastZ_succ {h : List SpanV} {j : Nat} {s t : SpanV} (h1 : h[j]? = some s) (h2 : h[leastZ h j]? = some t) : leastZ h (j + 1) = if s.ch < t.ch ∨ (s.ch = t.ch ∧ s.key < t.key) then j else leastZ h j := by
  show (match h[j]?, h[leastZ h j]? with | some s, some t => _ | _, _ => _) = _
  rw [h1, h2]
theorem drainZ_succ {e : Int} {k : Nat} {p : List SpanV × List SpanV} {s : SpanV} (h : p.1[leastZ p.1 p.1.length]? = some s) : drainZ e (k + 1) p = drainZ e k (p.1.take (leastZ p.1 p.1.length) ++ p.1.drop (leastZ p.1 p.1.length + 1), p.2 ++ [{ s with to_ := e }]) := by
  show (match p.1[leastZ p.1 p.1.length]? with | some s => _ | none => _) = _
  rw [h]
set_option maxRecDepth 100000 in
set_option maxHeartbeats 16000000 in
theorem Spans_any (L : List MsgV) (A0 : Option Addr) (cap0 : Nat) (w : World) (hl : L.length ≤ 1000) (hr : Row w w.heap.size A0 (msgCells L)) (hb : ∀ m ∈ L, 0 ≤ m.at_ ∧ m.at_ ≤ 268435455) :
    Calls Try.prog 10 #[.slice A0 L.length cap0] w (SpansPost w (spansZ L)) := by
  obtain ⟨N, hN⟩ : ∃ N, L.length = N := ⟨_, rfl⟩
  have HSp := Lib.hid (show spansZ L = (drainZ (endTo L N) (spTo L N).1.length (spTo L N)).2 by rw [← hN]; rfl)
  rw [hN] at hl ⊢
  have Hn := Lib.hid hN
  have Hr := Lib.hid hr
  have Hb := Lib.hid hb
  have Hsl := Lib.hid (spTo_len L)
  obtain ⟨w0, hw0⟩ : ∃ w0, (w.alloc (.cells #[.slice none 0 0] 33)).alloc (.cells #[.slice none 0 0] 33) = w0 := ⟨_, rfl⟩
  have HB0 := Lib.hid (show Below w.heap.size w w0 by rw [← hw0]; exact bnext (bnew w _) (bnew _ _))
  have HS0 := Lib.hid (show SpSt w0 w.heap.size (w.heap.size + 1) (w.heap.size + 2) none 0 0 none 0 0 [] [] from
    { hh := by rw [← hw0]; exact (Blk.new w 33 [.slice none 0 0]).alloc _
      ho := by
        rw [← hw0]
        have := Blk.new (w.alloc (.cells #[.slice none 0 0] 33)) 33 [.slice none 0 0]
        rwa [World.size_alloc] at this
      held := ⟨rfl, Row.none_ _ _ _, Nat.le_refl _, by omega, fun _ => rfl, nofun, .inr rfl⟩
      outs := World.ownsRow_nil _ _ _ _
      olen := rfl
      ne := nofun
      lt := ⟨by omega, by omega⟩
      bsz := by rw [← hw0]; simp })
  obtain ⟨ph, hph⟩ : ∃ ph, w.heap.size = ph := ⟨_, rfl⟩
  rw [hph] at HS0
  have Hph := Lib.hid hph
  clear hr hb hN
  go_enter Try.func10, Try.ntmps10
  go_wp2_with fail
  clear hw0 hph
  go_loopw [5, 16] (fun ev v wr => ∃ (k : Nat) (A : Option Addr) (n c : Nat) (A2 : Option Addr) (n2 c2 : Nat), k ≤ N ∧ v = .int .i64 k ∧ ev = .int .i64 (endTo L k) ∧ SpSt wr ph (ph + 1) (ph + 2) A n c A2 n2 c2 (spTo L k).1 (spTo L k).2 ∧ Below ph w wr) (fun _ v _ => N - (intOf v).toNat)
  case atStart => exact ⟨0, none, 0, 0, none, 0, 0, by omega, rfl, rfl, HS0.out, by rw [← Hph.out]; exact HB0.out⟩
  case round =>
    obtain ⟨k, A, n, c, A2, n2, c2, hk, rfl, rfl, hS, hbel⟩ := hrel
    have HS := Lib.hid hS
    have Hbel := Lib.hid hbel
    have hn := hS.held.len
    have hn2 := hS.olen
    have hsl := Hsl.out k
    rw [hn, hn2] at hsl
    clear hS hbel hn hn2
    by_cases hlt : k < N
    · have t1 : (k : Int) < (N : Int) := by omega
      have t2 : (0 : Int) ≤ (k : Int) := by omega
      obtain ⟨m, hm⟩ := list_get (k := k) Hn.out hlt
      have Hst := Lib.hid (spTo_succ hm)
      have Hen := Lib.hid (endTo_succ hm)
      obtain ⟨b, off, rfl, hbl, hc⟩ := msg_at Hr.out hm
      have hcw : ∀ j v, m.cells[j]? = some v → wr.cell? ⟨b, off + k * 5 + j, none⟩ = some v := fun j v hv => (Hbel.out.cell (p := ⟨b, off + k * 5 + j, none⟩) (by rw [← Hph.out]; exact hbl)).trans (hc j v hv)
      obtain ⟨mt, mk, mc, ma, mb⟩ := m
      have k0 := hcw 0 _ rfl
      have k1 := hcw 1 _ rfl
      have k2 := hcw 2 _ rfl
      have k3 := hcw 3 _ rfl
      have k4 := hcw 4 _ rfl
      rw [Nat.add_zero] at k0
      obtain ⟨w1, hw1⟩ : ∃ w1, wr.alloc (.cells #[.int .i64 mt, .int .i64 mk, .int .i64 mc, .int .i64 ma, .int .i64 mb] 30) = w1 := ⟨_, rfl⟩
      have HX := Lib.hid (show Blk w1 wr.heap.size 30 [.int .i64 mt, .int .i64 mk, .int .i64 mc, .int .i64 ma, .int .i64 mb] by rw [← hw1]; exact Blk.new wr _ [.int .i64 mt, .int .i64 mk, .int .i64 mc, .int .i64 ma, .int .i64 mb])
      have E1 := Lib.hid (show Below wr.heap.size wr w1 by rw [← hw1]; exact bnew wr _)
      have S1 := Lib.hid (HS.out.below E1.out)
      have hlt1 := HS.out.hh.lt
      have N1 := Lib.hid (show Below ph w w1 from Hbel.out.trans (E1.out.mono (Nat.le_of_lt hlt1)))
      have x1 : ∀ i, w1.cell? ⟨wr.heap.size, i, none⟩ = ([.int .i64 mt, .int .i64 mk, .int .i64 mc, .int .i64 ma, .int .i64 mb] : List Value)[i]? := blk_cells HX.out
      obtain ⟨en, hen⟩ : ∃ en, endTo L k = en := ⟨_, rfl⟩
      rw [hen] at Hen ⊢
      obtain ⟨mx, hmx⟩ : ∃ mx, max en mt = mx := ⟨_, rfl⟩
      have bmax : ∀ W, (Builtin.max_ #[3, 3] 3 #[.int .i64 en, .int .i64 mt]).run Try.prog W = .ok (.int .i64 mx) W := fun W => by
        have e : (if en < mt then mt else en) = mx := by rw [← hmx]; split <;> omega
        simp [Builtin.max_, Builtin.max2, e]
      have Hmx := Lib.hid (show endTo L (k + 1) = mx by rw [Hen.out]; exact hmx)
      have HLet := Lib.hid (let_any ph (ph + 1) (ph + 2) A n c A2 n2 c2 (spTo L k).1 (spTo L k).2 ⟨mt, mk, mc, ma, mb⟩ w1 S1.out (by omega) (by omega))
      have HA2 := Lib.hid (show ∀ ad, A2 = some ad → wr.heap.size ≠ ad.block from fun ad ha => by
        rcases HS.out.outs.2 with ⟨h4, _⟩ | ⟨g', cap', cur', h4, _⟩
        · injection h4 with h4
          rw [h4] at ha
          cases ha
        · injection h4 with h4
          rw [h4] at ha
          injection ha with ha
          subst ha
          have h5 := HS.out.outs
          rw [h4] at h5
          have := own_block_lt' h5
          show wr.heap.size ≠ g'
          omega)
      have hlen1 := letZ_len ⟨mt, mk, mc, ma, mb⟩ (spTo L k).1
      have hb2 : ph + 2 ≤ wr.heap.size := HS.out.bsz
      clear hm hbl hc hcw hen hmx Hen
      by_cases hk1 : mk = 128 ∨ mk = 144
      · have hkk : ((mk == 128) = true ∧ (mk == 144) = false ∧ mk = 128) ∨ ((mk == 128) = false ∧ (mk == 144) = true ∧ mk = 144) := by
          rcases hk1 with h | h
          · exact .inl ⟨by rw [h]; rfl, by rw [h]; rfl, h⟩
          · exact .inr ⟨by rw [h]; rfl, by rw [h]; rfl, h⟩
        clear hk1
        rcases hkk with ⟨t3, t4, hmk⟩ | ⟨t3, t4, hmk⟩
        · have HSt := Lib.hid (show spTo L (k + 1) = ((letZ ⟨mt, mk, mc, ma, mb⟩ (spTo L k).1).1, (spTo L k).2 ++ (letZ ⟨mt, mk, mc, ma, mb⟩ (spTo L k).1).2.toList) by
            rw [Hst.out]; unfold stepS; simp [hmk])
          clear hmk Hst
          go_wp2_with (go_at_call 29; fail)
          refine HLet.out.mono ?_
          rintro e w2 ⟨rfl, A', n', c', A2', n2', c2', hS2, hK2, hN2⟩
          have S2 := Lib.hid hS2
          have N2 := Lib.hid (N1.out.trans hN2)
          have X2 : Blk w2 wr.heap.size 30 [.int .i64 mt, .int .i64 mk, .int .i64 mc, .int .i64 ma, .int .i64 mb] := (hK2.2 wr.heap.size HX.out.lt (by omega) (by omega) (fun ad ha => HA2.out ad ha)).trans HX.out
          have x2 : ∀ i, w2.cell? ⟨wr.heap.size, i, none⟩ = ([.int .i64 mt, .int .i64 mk, .int .i64 mc, .int .i64 ma, .int .i64 mb] : List Value)[i]? := blk_cells X2
          clear hS2 hK2 hN2 X2 x1 k0 k1 k2 k3 k4 hw1 HLet
          go_wp2
          go_roundw
          case rel => exact ⟨k + 1, A', n', c', A2', n2', c2', by omega, by go_num, by rw [Hmx.out], by rw [HSt.out]; exact S2.out, N2.out⟩
          case measure => simp [intOf]; omega
        · by_cases hmb : 0 < mb
          · have t5 : decide (0 < mb) = true := decide_eq_true hmb
            have HSt := Lib.hid (show spTo L (k + 1) = ((letZ ⟨mt, mk, mc, ma, mb⟩ (spTo L k).1).1 ++ [⟨mc, ma, mt, 0, mb⟩], (spTo L k).2 ++ (letZ ⟨mt, mk, mc, ma, mb⟩ (spTo L k).1).2.toList) by
              rw [Hst.out]; unfold stepS; simp [hmk, hmb])
            clear hmk hmb Hst
            go_wp2_with (go_at_call 29; fail)
            refine HLet.out.mono ?_
            rintro e w2 ⟨rfl, A', n', c', A2', n2', c2', hS2, hK2, hN2⟩
            have hn' := hS2.held.len
            have hhl := HS.out.held.len
            have S3 := Lib.hid (hS2.below (bnew w2 (.cells #[.int .i64 mc, .int .i64 ma, .int .i64 mt, .int .i64 0, .int .i64 mb] 42)))
            have N2 := Lib.hid (N1.out.trans hN2)
            have X2 : Blk w2 wr.heap.size 30 [.int .i64 mt, .int .i64 mk, .int .i64 mc, .int .i64 ma, .int .i64 mb] := (hK2.2 wr.heap.size HX.out.lt (by omega) (by omega) (fun ad ha => HA2.out ad ha)).trans HX.out
            have x2 : ∀ i, w2.cell? ⟨wr.heap.size, i, none⟩ = ([.int .i64 mt, .int .i64 mk, .int .i64 mc, .int .i64 ma, .int .i64 mb] : List Value)[i]? := blk_cells X2
            have xh2 : w2.cell? ⟨ph, 0, none⟩ = some (.slice A' n' c') := hS2.hh.cell 0
            have hrow3 := Row.new w2 42 (SpanV.cells ⟨mc, ma, mt, 0, mb⟩)
            have hsz3 := World.size_alloc w2 (.cells #[.int .i64 mc, .int .i64 ma, .int .i64 mt, .int .i64 0, .int .i64 mb] 42)
            obtain ⟨g8, c8, w8, row, hrun, hown8, hgr8, hrow8, hg8⟩ := S3.out.run_push ⟨mc, ma, mt, 0, mb⟩ (g := w2.heap.size) (by rw [hsz3]; exact hrow3) (by omega)
            have S9 := Lib.hid (S3.out.new_held hown8 (by rw [List.length_append, hn']; rfl) hgr8 hrow8 hg8)
            have hrb : ∀ q, row = some q → ph + 2 ≤ q := fun q hq => by
              obtain ⟨b', e1, h2, _⟩ := S3.out.held.low _ (hrow8 q hq)
              injection e1 with e1
              omega
            have Bh8 := S3.out.hh.grown hgr8 (fun e => by have := hrb ph e.symm; omega)
            have xh8 : w8.cell? ⟨ph, 0, none⟩ = some (.slice A' n' c') := Bh8.cell 0
            have yh8 := blk_free Bh8
            have N9 := Lib.hid (show Below ph w (w8.setCell ⟨ph, 0, none⟩ (.slice (some ⟨g8, 0, none⟩) (n' + 1) c8)) from by
              have h1 : Below ph w (w2.alloc (.cells #[.int .i64 mc, .int .i64 ma, .int .i64 mt, .int .i64 0, .int .i64 mb] 42)) := N2.out.alloc (by have := hS2.bsz; omega) _
              have h2 : Below ph w w8 := h1.grown hgr8 (by have := hS2.bsz; omega) (fun q hq => by have := hrb q hq; omega)
              exact h2.setCell (Nat.le_refl _) _)
            clear hS2 hK2 hN2 X2 x1 k0 k1 k2 k3 k4 hw1 HLet hrow3 hown8 hgr8 hrow8 hg8 hrb Bh8 hsz3
            go_wp2_with (at_builtin; refine wpList_append_run _ rfl (.tmp 44) (.tmp 54) 33 33 rfl _ _ rfl rfl hrun ?_)
            go_roundw
            case rel => exact ⟨k + 1, some ⟨g8, 0, none⟩, n' + 1, c8, A2', n2', c2', by omega, by go_num, by rw [Hmx.out], by rw [HSt.out]; exact S9.out, N9.out⟩
            case measure => simp [intOf]; omega
          · have t5 : decide (0 < mb) = false := decide_eq_false hmb
            have HSt := Lib.hid (show spTo L (k + 1) = ((letZ ⟨mt, mk, mc, ma, mb⟩ (spTo L k).1).1, (spTo L k).2 ++ (letZ ⟨mt, mk, mc, ma, mb⟩ (spTo L k).1).2.toList) by
              rw [Hst.out]; unfold stepS; simp [hmk, hmb])
            clear hmk hmb Hst
            go_wp2_with (go_at_call 29; fail)
            refine HLet.out.mono ?_
            rintro e w2 ⟨rfl, A', n', c', A2', n2', c2', hS2, hK2, hN2⟩
            have S2 := Lib.hid hS2
            have N2 := Lib.hid (N1.out.trans hN2)
            have X2 : Blk w2 wr.heap.size 30 [.int .i64 mt, .int .i64 mk, .int .i64 mc, .int .i64 ma, .int .i64 mb] := (hK2.2 wr.heap.size HX.out.lt (by omega) (by omega) (fun ad ha => HA2.out ad ha)).trans HX.out
            have x2 : ∀ i, w2.cell? ⟨wr.heap.size, i, none⟩ = ([.int .i64 mt, .int .i64 mk, .int .i64 mc, .int .i64 ma, .int .i64 mb] : List Value)[i]? := blk_cells X2
            clear hS2 hK2 hN2 X2 x1 k0 k1 k2 k3 k4 hw1 HLet
            go_wp2
            go_roundw
            case rel => exact ⟨k + 1, A', n', c', A2', n2', c2', by omega, by go_num, by rw [Hmx.out], by rw [HSt.out]; exact S2.out, N2.out⟩
            case measure => simp [intOf]; omega
      · have t3 : (mk == 128) = false := beq_eq_false_iff_ne.2 (fun h => hk1 (.inl h))
        have t4 : (mk == 144) = false := beq_eq_false_iff_ne.2 (fun h => hk1 (.inr h))
        have HSt := Lib.hid (show spTo L (k + 1) = spTo L k by
          rw [Hst.out]; unfold stepS
          have : ¬ (mk = 144 ∧ 0 < mb) := fun h => hk1 (.inr h.1)
          simp [hk1, this])
        clear hk1 Hst HLet
        go_wp2
        go_roundw
        case rel => exact ⟨k + 1, A, n, c, A2, n2, c2, by omega, by go_num, by rw [Hmx.out], by rw [HSt.out]; exact S1.out, N1.out⟩
        case measure => simp [intOf]; omega
    · have hkN : k = N := by omega
      subst hkN
      have t1 : ¬ ((k : Int) < (k : Int)) := by omega
      obtain ⟨en, hen⟩ : ∃ en, endTo L k = en := ⟨_, rfl⟩
      obtain ⟨F, hF⟩ : ∃ F, drainZ (endTo L k) (spTo L k).1.length (spTo L k) = F := ⟨_, rfl⟩
      have hsp := HSp.out
      rw [hF] at hsp
      have HSp2 := Lib.hid hsp
      rw [hen] at hF ⊢
      have hn := HS.out.held.len
      rw [hn] at hF
      have HF := Lib.hid hF
      clear hsp hF hen hn HSp
      go_wp2_with fail
      go_loopw [] (fun wr => ∃ (A : Option Addr) (n c : Nat) (A2 : Option Addr) (n2 c2 : Nat) (held out : List SpanV), SpSt wr ph (ph + 1) (ph + 2) A n c A2 n2 c2 held out ∧ drainZ en n (held, out) = F ∧ n + n2 ≤ k ∧ Below ph w wr) (fun wr => heldMu ph wr)
      case atStart => exact ⟨A, n, c, A2, n2, c2, (spTo L k).1, (spTo L k).2, HS.out, HF.out, hsl, Hbel.out⟩
      case round =>
        obtain ⟨A, n, c, A2, n2, c2, held, out, hS, hD, hnn, hbel⟩ := hrel
        have HD := Lib.hid hD
        have HT := Lib.hid hS
        have Hb2 := Lib.hid hbel
        have hln := hS.held.len
        have Hln := Lib.hid hln
        have xh : wr.cell? ⟨ph, 0, none⟩ = some (.slice A n c) := hS.hh.cell 0
        have xo : wr.cell? ⟨ph + 1, 0, none⟩ = some (.slice A2 n2 c2) := hS.ho.cell 0
        have HMu := Lib.hid (heldMu_at xh)
        clear hS hD hbel hln
        by_cases hn0 : 0 < n
        · have t2 : (0 : Int) < (n : Int) := by omega
          obtain ⟨p0, hp0⟩ := list_get (k := 0) Hln.out hn0
          obtain ⟨b, off, hA, _, _⟩ := span_at HT.out.held.row hp0
          obtain ⟨g, hg, hgb, hgl⟩ := HT.out.held.low _ hA
          injection hg with e1 e2
          subst e1 e2 hA
          clear hp0
          have HTc := Lib.hid (fun (i : Nat) (s : SpanV) (h : held[i]? = some s) j v (hv : s.cells[j]? = some v) => (show wr.cell? ⟨b, i * 5 + j, none⟩ = some v from by
            obtain ⟨b', o', ha, _, hc⟩ := span_at HT.out.held.row h
            injection ha with ha
            injection ha with e1 e2
            subst e1 e2
            have := hc j v hv
            rwa [Nat.zero_add] at this))
          have hll := leastZ_lt held (by rw [Hln.out]; exact hn0)
          rw [Hln.out] at hll
          have Hll := Lib.hid hll
          clear hll
          go_wp2_with fail
          go_loopw [9, 62] (fun lv v wx => ∃ j : Nat, j ≤ n ∧ v = .int .i64 j ∧ lv = .int .i64 (leastZ held j) ∧ Below wr.heap.size wr wx) (fun _ v _ => n - (intOf v).toNat)
          case atStart => exact ⟨0, by omega, rfl, rfl, Below.refl _ _⟩
          case round =>
            obtain ⟨j, hj, rfl, rfl, hbx⟩ := hrel
            have Hbx := Lib.hid hbx
            clear hbx
            by_cases hjn : j < n
            · have t3 : (j : Int) < (n : Int) := by omega
              have t4 : (0 : Int) ≤ (j : Int) := by omega
              obtain ⟨s, hs⟩ := list_get (k := j) Hln.out hjn
              have hlj := Hll.out j hj
              obtain ⟨t, ht⟩ := list_get (k := leastZ held j) Hln.out hlj
              have HLs := Lib.hid (leastZ_succ hs ht)
              obtain ⟨l, hl⟩ : ∃ l, leastZ held j = l := ⟨_, rfl⟩
              rw [hl] at hlj ht HLs ⊢
              obtain ⟨sc, sk, sf, st, sh⟩ := s
              obtain ⟨tc, tk, tf, tt, th⟩ := t
              have k0 := (Hbx.out.cell (p := ⟨b, j * 5 + 0, none⟩) hgl).trans (HTc.out j _ hs 0 _ rfl)
              have k1 := (Hbx.out.cell (p := ⟨b, j * 5 + 1, none⟩) hgl).trans (HTc.out j _ hs 1 _ rfl)
              have k2 := (Hbx.out.cell (p := ⟨b, j * 5 + 2, none⟩) hgl).trans (HTc.out j _ hs 2 _ rfl)
              have k3 := (Hbx.out.cell (p := ⟨b, j * 5 + 3, none⟩) hgl).trans (HTc.out j _ hs 3 _ rfl)
              have k4 := (Hbx.out.cell (p := ⟨b, j * 5 + 4, none⟩) hgl).trans (HTc.out j _ hs 4 _ rfl)
              rw [Nat.add_zero] at k0
              obtain ⟨w1, hw1⟩ : ∃ w1, wr.alloc (.cells #[.int .i64 sc, .int .i64 sk, .int .i64 sf, .int .i64 st, .int .i64 sh] 42) = w1 := ⟨_, rfl⟩
              have HX := Lib.hid (show Blk w1 wr.heap.size 42 [.int .i64 sc, .int .i64 sk, .int .i64 sf, .int .i64 st, .int .i64 sh] by rw [← hw1]; exact Blk.new wr _ [.int .i64 sc, .int .i64 sk, .int .i64 sf, .int .i64 st, .int .i64 sh])
              have E1 := Lib.hid (show Below wr.heap.size wr w1 by rw [← hw1]; exact bnew wr _)
              have E2 := Lib.hid (bnext Hbx.out E1.out)
              obtain ⟨gs, hgs⟩ : ∃ gs, wr.heap.size = gs := ⟨_, rfl⟩
              have HXg := HX.out
              rw [hgs] at HXg
              have z0 := fun (z : GW w1) => (show z.1.cell? ⟨gs, 0, none⟩ = some (.int .i64 sc) from (z.2.cell (p := ⟨gs, 0, none⟩) HXg.lt).trans (HXg.cell 0))
              have z1 := fun (z : GW w1) => (show z.1.cell? ⟨gs, 1, none⟩ = some (.int .i64 sk) from (z.2.cell (p := ⟨gs, 1, none⟩) HXg.lt).trans (HXg.cell 1))
              have zh := fun (z : GW w1) => ((bnext E2.out z.2).cell (p := ⟨ph, 0, none⟩) HT.out.hh.lt).trans xh
              have zt0 := fun (z : GW w1) => ((bnext E2.out z.2).cell (p := ⟨b, l * 5 + 0, none⟩) hgl).trans (HTc.out l _ ht 0 _ rfl)
              have zt1 := fun (z : GW w1) => ((bnext E2.out z.2).cell (p := ⟨b, l * 5 + 1, none⟩) hgl).trans (HTc.out l _ ht 1 _ rfl)
              simp only [Nat.add_zero] at zt0
              have t5 : (l : Int) < (n : Int) := by omega
              have t6 : (0 : Int) ≤ (l : Int) := by omega
              have hcase : (leastZ held (j + 1) = j ∧ decide (sc < tc) = true) ∨ (leastZ held (j + 1) = j ∧ decide (sc < tc) = false ∧ (sc == tc) = true ∧ decide (sk < tk) = true) ∨ (leastZ held (j + 1) = l ∧ decide (sc < tc) = false ∧ (sc == tc) = true ∧ decide (sk < tk) = false) ∨ (leastZ held (j + 1) = l ∧ decide (sc < tc) = false ∧ (sc == tc) = false) := by
                have hz := HLs.out
                simp only at hz
                by_cases h1 : sc < tc
                · exact .inl ⟨by rw [hz, if_pos (.inl h1)], decide_eq_true h1⟩
                · by_cases h2 : sc = tc
                  · by_cases h3 : sk < tk
                    · exact .inr (.inl ⟨by rw [hz, if_pos (.inr ⟨h2, h3⟩)], decide_eq_false h1, by rw [h2]; exact beq_self_eq_true tc, decide_eq_true h3⟩)
                    · exact .inr (.inr (.inl ⟨by rw [hz, if_neg (by intro h; rcases h with h | h; exact h1 h; exact h3 h.2)], decide_eq_false h1, by rw [h2]; exact beq_self_eq_true tc, decide_eq_false h3⟩))
                  · exact .inr (.inr (.inr ⟨by rw [hz, if_neg (by intro h; rcases h with h | h; exact h1 h; exact h2 h.1)], decide_eq_false h1, beq_eq_false_iff_ne.2 h2⟩))
              clear HLs hs ht HXg
              rcases hcase with ⟨hLz, d1⟩ | ⟨hLz, d1, d2, d3⟩ | ⟨hLz, d1, d2, d3⟩ | ⟨hLz, d1, d2⟩
              all_goals
                have HLz := Lib.hid hLz
                clear hLz
                go_wp2_with fail
                refine wp_region_calm (by kernel_rfl) (by kernel_rfl) ?_
                repeat (go_big_quiet_step (fail))
                refine wpQuiet_nil ?_
                intro w5 hw'
                have B5 := Lib.hid (bnext E2.out (gw_below hw'))
                clear hw' z0 z1 zh zt0 zt1 k0 k1 k2 k3 k4 hw1
                go_wp2
                go_roundw
                case rel => exact ⟨j + 1, by omega, by go_num, by rw [HLz.out], B5.out⟩
                case measure => simp [intOf]; omega
            · have hjn2 : j = n := by omega
              subst hjn2
              have t3 : ¬ ((j : Int) < (j : Int)) := by omega
              obtain ⟨i0, hi, hz0, hz1, hz2⟩ := info_parts inf_span
              have hlj := Hll.out j (Nat.le_refl _)
              obtain ⟨s, hs⟩ := list_get (k := leastZ held j) Hln.out hlj
              have hd := HD.out
              obtain ⟨q, hq⟩ : ∃ q, j = q + 1 := ⟨j - 1, by omega⟩
              have hs2 : held[leastZ held held.length]? = some s := by rw [Hln.out]; exact hs
              rw [hq, drainZ_succ (p := (held, out)) hs2] at hd
              simp only [Hln.out] at hd
              obtain ⟨l, hl⟩ : ∃ l, leastZ held j = l := ⟨_, rfl⟩
              rw [hl] at hlj hs hd ⊢
              have HD2 := Lib.hid hd
              have Hq := Lib.hid hq
              clear hq
              obtain ⟨sc, sk, sf, st, sh⟩ := s
              have t5 : (l : Int) < (j : Int) := by omega
              have t6 : (0 : Int) ≤ (l : Int) := by omega
              have xh2 := (Hbx.out.cell (p := ⟨ph, 0, none⟩) HT.out.hh.lt).trans xh
              have k0 := (Hbx.out.cell (p := ⟨b, l * 5 + 0, none⟩) hgl).trans (HTc.out l _ hs 0 _ rfl)
              have k1 := (Hbx.out.cell (p := ⟨b, l * 5 + 1, none⟩) hgl).trans (HTc.out l _ hs 1 _ rfl)
              have k2 := (Hbx.out.cell (p := ⟨b, l * 5 + 2, none⟩) hgl).trans (HTc.out l _ hs 2 _ rfl)
              have k3 := (Hbx.out.cell (p := ⟨b, l * 5 + 3, none⟩) hgl).trans (HTc.out l _ hs 3 _ rfl)
              have k4 := (Hbx.out.cell (p := ⟨b, l * 5 + 4, none⟩) hgl).trans (HTc.out l _ hs 4 _ rfl)
              rw [Nat.add_zero] at k0
              obtain ⟨w1, hw1⟩ : ∃ w1, wr.alloc (.cells #[.int .i64 sc, .int .i64 sk, .int .i64 sf, .int .i64 st, .int .i64 sh] 42) = w1 := ⟨_, rfl⟩
              have HX := Lib.hid (show Blk w1 wr.heap.size 42 [.int .i64 sc, .int .i64 sk, .int .i64 sf, .int .i64 st, .int .i64 sh] by rw [← hw1]; exact Blk.new wr _ [.int .i64 sc, .int .i64 sk, .int .i64 sf, .int .i64 st, .int .i64 sh])
              have hb1 : Below wr.heap.size wr w1 := by rw [← hw1]; exact bnew wr _
              have y1 := blk_free HX.out
              have c13 : w1.cell? ⟨wr.heap.size, 3, none⟩ = some (.int .i64 st) := HX.out.cell 3
              obtain ⟨w2, hw2⟩ : ∃ w2, w1.setCell ⟨wr.heap.size, 3, none⟩ (.int .i64 en) = w2 := ⟨_, rfl⟩
              have B2 := Lib.hid (show Below wr.heap.size wr w2 by rw [← hw2]; exact hb1.setCell (Nat.le_refl _) _)
              have HX2 := Lib.hid (show Blk w2 wr.heap.size 42 [.int .i64 sc, .int .i64 sk, .int .i64 sf, .int .i64 en, .int .i64 sh] by rw [← hw2]; exact HX.out.set_ 3 _)
              have E2 := Lib.hid (bnext Hbx.out B2.out)
              have S3 := Lib.hid (HT.out.below E2.out)
              have x3 : ∀ i, w2.cell? ⟨wr.heap.size, i, none⟩ = ([.int .i64 sc, .int .i64 sk, .int .i64 sf, .int .i64 en, .int .i64 sh] : List Value)[i]? := blk_cells HX2.out
              have xo3 : w2.cell? ⟨ph + 1, 0, none⟩ = some (.slice A2 n2 c2) := S3.out.ho.cell 0
              have S4 := Lib.hid (S3.out.below (bnew w2 (.cells #[.int .i64 sc, .int .i64 sk, .int .i64 sf, .int .i64 en, .int .i64 sh] 42)))
              have N4 := Lib.hid (show Below ph w (w2.alloc (.cells #[.int .i64 sc, .int .i64 sk, .int .i64 sf, .int .i64 en, .int .i64 sh] 42)) from by
                have h1 : Below ph w w2 := Hb2.out.trans (E2.out.mono (Nat.le_of_lt HT.out.hh.lt))
                exact h1.alloc (by have := S3.out.bsz; omega) _)
              have hbase := S4.out.bsz
              have hbase3 := S3.out.bsz
              have HA2 := Lib.hid (own_block_ge S3.out.outs)
              clear hd hs hs2 HTc
              go_wp2_with (first | (refine wpList_build_one rfl 33 42 (.tmp 104) rfl i0 _ 5 Try.underlying33 hi hz0 hz1 (by omega) (by omega) #[.int .i64 sc, .int .i64 sk, .int .i64 sf, .int .i64 en, .int .i64 sh] rfl rfl ?_) | (at_builtin; refine wpList_app _ rfl (.tmp 103) (.tmp 105) 33 rfl (ph + 2) 42 i0 _ 5 40 Try.underlying33 hi hz0 hz1 hz2 rfl (by omega) (.slice A2 n2 c2) n2 (spanCells out) rfl S4.out.outs (w2.heap.size + 1) (some ⟨w2.heap.size, 0, none⟩) 1 1 [.int .i64 sc, .int .i64 sk, .int .i64 sf, .int .i64 en, .int .i64 sh] rfl rfl (Row.new w2 _ _) (span_one [⟨sc, sk, sf, en, sh⟩]) (by omega) (by omega) hbase ?_; intro A3 c3 w5 hown5 hgr5 hat5 hcc5; have Bo5 := S4.out.ho.grown hgr5 (fun e => by have := HA2.out (ph + 1) e.symm; omega); have xo5 : w5.cell? ⟨ph + 1, 0, none⟩ = some (.slice A2 n2 c2) := Bo5.cell 0; have yo5 := blk_free Bo5))
              have S6 := Lib.hid (S4.out.push_out ⟨sc, sk, sf, en, sh⟩ hown5 hgr5 hat5)
              have N6 := Lib.hid (show Below ph w (w5.setCell ⟨ph + 1, 0, none⟩ (.slice A3 (n2 + 1) c3)) from by
                have h3 : Below ph w w5 := N4.out.grown hgr5 (by omega) (fun q hq => by have := HA2.out q hq; omega)
                exact h3.setCell (by show ph ≤ ph + 1; omega) _)
              obtain ⟨w6, hw6⟩ : ∃ w6, w5.setCell ⟨ph + 1, 0, none⟩ (.slice A3 (n2 + 1) c3) = w6 := ⟨_, rfl⟩
              rw [hw6] at S6 N6 ⊢
              clear hown5 hgr5 hat5 hcc5 Bo5 xo5 yo5 hw6 S4 S3 x3 xo3 hw2 hw1 y1 c13 k0 k1 k2 k3 k4 xh2 hb1
              have xph := fun (z : GW w6) => (show z.1.cell? ⟨ph, 0, none⟩ = some (.slice (some ⟨b, 0, none⟩) j c) from (z.2.cell (p := ⟨ph, 0, none⟩) S6.out.hh.lt).trans (S6.out.hh.cell 0))
              have hnc := S6.out.held.le
              have t7 : ¬ ((c : Int) < (l : Int)) := by omega
              have t8 : (l : Int) ≤ (c : Int) := by omega
              have t9 : (l : Int) + 1 ≤ (j : Int) := by omega
              by_cases hlast : l + 1 < j
              · have t10 : ¬ (c = l + 1) := by omega
                have t11 : ¬ (l + (j - (l + 1)) ≤ l) := by omega
                refine wp_region_calm_tail 8 (by kernel_rfl) (by kernel_rfl) ?_
                simp only [List.take_succ_cons, List.take_zero, List.drop_succ_cons, List.drop_zero]
                repeat (go_big_quiet_step (fail))
                refine wpQuiet_nil ?_
                intro w7 hw'
                have B7 := Lib.hid (gw_below hw')
                clear hw' xph
                have S7 := Lib.hid (S6.out.below B7.out)
                obtain ⟨g8, c8, w8, hrun, hown8, hgr8, hg8⟩ := S7.out.run_cut hlast (by omega)
                have S9 := Lib.hid (S7.out.new_held hown8 (by rw [List.length_append, List.length_take, List.length_drop, S7.out.held.len, Nat.min_eq_left (by omega)]) hgr8 nofun (.inr hg8))
                have Bh8 := S7.out.hh.grown hgr8 nofun
                have xh8 : w8.cell? ⟨ph, 0, none⟩ = some (.slice (some ⟨b, 0, none⟩) j c) := Bh8.cell 0
                have yh8 := blk_free Bh8
                have hz7 := B7.out.size
                have hl6 := S6.out.hh.lt
                have N9 := Lib.hid (show Below ph w (w8.setCell ⟨ph, 0, none⟩ (.slice (some ⟨g8, 0, none⟩) (l + (j - (l + 1))) c8)) from by
                  have h1 : Below ph w w7 := N6.out.trans (B7.out.mono (by omega))
                  have h2 : Below ph w w8 := h1.grown hgr8 (by omega) nofun
                  exact h2.setCell (Nat.le_refl _) _)
                have HM9 := Lib.hid (heldMu_at (S9.out.hh.cell 0))
                have HD3 := Lib.hid (show drainZ en (l + (j - (l + 1))) (held.take l ++ held.drop (l + 1), out ++ [⟨sc, sk, sf, en, sh⟩]) = F from by
                  rw [show l + (j - (l + 1)) = q by have := Hq.out; omega]
                  exact HD2.out)
                clear hown8 hgr8 hg8 Bh8
                go_wp2_with (at_builtin; refine wpList_append_run _ rfl (.tmp 110) (.tmp 114) 33 33 rfl _ _ rfl rfl hrun ?_)
                go_roundw
                case rel => exact ⟨some ⟨g8, 0, none⟩, l + (j - (l + 1)), c8, A3, n2 + 1, c3, _, _, S9.out, HD3.out, by omega, N9.out⟩
                case measure => rw [HM9.out, HMu.out]; omega
              · have hjl : j = l + 1 := by omega
                have hql : q = l := by have := Hq.out; omega
                subst hjl hql
                have t12 : q + 1 - (q + 1) = 0 := by omega
                have hcc : c = q + 1 ∨ ¬ (c = q + 1) := by omega
                rcases hcc with hce | hce
                all_goals
                  refine wp_region_calm_tail 8 (by kernel_rfl) (by kernel_rfl) ?_
                  simp only [List.take_succ_cons, List.take_zero, List.drop_succ_cons, List.drop_zero]
                  repeat (go_big_quiet_step (fail))
                  refine wpQuiet_nil ?_
                  intro w7 hw'
                  have B7 := Lib.hid (gw_below hw')
                  clear hw' xph
                  have S7 := Lib.hid (S6.out.below B7.out)
                  have xh7 : w7.cell? ⟨ph, 0, none⟩ = some (.slice (some ⟨b, 0, none⟩) (q + 1) c) := S7.out.hh.cell 0
                  have yh7 := blk_free S7.out.hh
                  have S9 := Lib.hid (S7.out.cut_last)
                  have hl6 := S6.out.hh.lt
                  have N9 := Lib.hid (show Below ph w (w7.setCell ⟨ph, 0, none⟩ (.slice (some ⟨b, 0, none⟩) q q)) from
                    (N6.out.trans (B7.out.mono (by omega))).setCell (Nat.le_refl _) _)
                  have HM9 := Lib.hid (heldMu_at (S9.out.hh.cell 0))
                  clear t12
                  go_wp2
                  go_roundw
                  case rel => exact ⟨some ⟨b, 0, none⟩, q, q, A3, n2 + 1, c3, _, _, S9.out, HD2.out, by omega, N9.out⟩
                  case measure => rw [HM9.out, HMu.out]; omega
        · have hn1 : n = 0 := by omega
          subst hn1
          have t2 : ¬ ((0 : Int) < ((0 : Nat) : Int)) := by omega
          have hd := HD.out
          have hd2 : F = (held, out) := hd.symm
          have HFo := Lib.hid (show spansZ L = out by rw [HSp2.out, hd2])
          have Ho := Lib.hid HT.out.outs
          have Hol := Lib.hid HT.out.olen
          have Hc2 := Lib.hid (own_form HT.out.outs)
          clear hd hd2
          go_wp2
          go_ret
          obtain ⟨A', c', e1, h1, _⟩ := Hc2.out
          injection e1 with e1 e2 e3
          subst e1 e3
          refine ⟨A2, c2, by rw [HFo.out, Hol.out]; rfl, by rw [HFo.out, Hol.out]; exact h1, own_cap Ho.out, by rw [HFo.out]; exact Row.of_own Ho.out, ?_⟩
          rw [Hph.out]
          exact Hb2.out
end Go.Proofs.Ytbgkoopfdfnmcaa

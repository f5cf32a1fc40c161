/- Contract of layer 38's Notes; bounds of held keys; conditions: as each theorem states. -/
import Derived.Test.YtbgkoopfdfnmcaaMidiE
import Derived.Great.BuildSlice
namespace Go.Proofs.Ytbgkoopfdfnmcaa
open Go.RowKit

section
variable {P : Program}
theorem wpList_build_n {ops : Array Oper} {rest : List Oper} {o : Oper} {a : Act} {w : World} {Q : Exit → Act → World → Prop} (hg : o.guard = none) (t e : TypeId) (x : Operand) (ho : o.op = .buildSlice t 1 #[(0, x)])
    (ie : TypeInfo) (z : Value) (s : Nat) (hu : P.underlying t = some (.slice e)) (hie : P.info? e = some ie) (hz : ie.zero = some z) (hs : ie.size = s) (h0 : 0 < s) (hs2 : s ≤ 1000000) (cs : Array Value) (hx : (a.eval x).cells = cs) (hcs : cs.size = s)
    (h : wpList P ops Q rest (a.put o.dst (.slice (some ⟨w.heap.size, 0, none⟩) 1 1)) (w.alloc (.cells cs e))) : wpList P ops Q (o :: rest) a w := by
  refine wpList_buildSlice hg t e 1 #[(0, x)] ho cs ie z hu hie hz (by rw [hs]; omega) (by rw [hs]; omega) ?_ h
  rw [hs]
  have := Great.fill_whole (s := s) h0 [a.eval x] ((Array.range (1 * s)).map (z.cells[· % z.cells.size]!)) (fun v hv => by rw [List.mem_singleton] at hv; rw [hv, hx, hcs]) (by simp)
  simpa [hx] using this
end
def SpanOk (s : SpanV) : Prop := (0 ≤ s.key ∧ s.key ≤ 127) ∧ (0 ≤ s.hard ∧ s.hard ≤ 127) ∧ (0 ≤ s.from_ ∧ s.from_ ≤ 268435455) ∧ 0 ≤ s.to_ ∧ s.to_ ≤ 268435455
def MsgOk (m : MsgV) : Prop := (0 ≤ m.at_ ∧ m.at_ ≤ 268435455) ∧ (0 ≤ m.a ∧ m.a ≤ 127) ∧ 0 ≤ m.b ∧ m.b ≤ 127
theorem letZ_ok {m : MsgV} (hm : MsgOk m) : ∀ {l : List SpanV}, (∀ s ∈ l, SpanOk s) → (∀ s ∈ (letZ m l).1, SpanOk s) ∧ ∀ s ∈ (letZ m l).2.toList, SpanOk s
  | [], _ => ⟨fun s hs => by simp [letZ] at hs, fun s hs => by simp [letZ] at hs⟩
  | x :: r, h => by
    unfold letZ
    split
    · refine ⟨fun s hs => h s (by simp [hs]), fun s hs => ?_⟩
      have hs : s = { x with to_ := m.at_ } := by simpa using hs
      subst hs
      have hx := h x (by simp)
      exact ⟨hx.1, hx.2.1, hx.2.2.1, hm.1.1, hm.1.2⟩
    · have ih := letZ_ok hm (l := r) (fun s hs => h s (by simp [hs]))
      refine ⟨fun s hs => ?_, ih.2⟩
      rcases List.mem_cons.1 hs with rfl | hs
      · exact h _ (by simp)
      · exact ih.1 s hs
def PairOk (p : List SpanV × List SpanV) : Prop := (∀ s ∈ p.1, SpanOk s) ∧ ∀ s ∈ p.2, SpanOk s
theorem stepS_ok {p : List SpanV × List SpanV} {m : MsgV} (hp : PairOk p) (hm : MsgOk m) : PairOk (stepS p m) := by
  have hq : PairOk (if m.kind = 128 ∨ m.kind = 144 then ((letZ m p.1).1, p.2 ++ (letZ m p.1).2.toList) else p) := by
    split
    · have := letZ_ok hm hp.1
      refine ⟨this.1, fun s hs => ?_⟩
      rcases List.mem_append.1 hs with h | h
      · exact hp.2 s h
      · exact this.2 s h
    · exact hp
  unfold stepS
  simp only
  split
  · refine ⟨fun s hs => ?_, hq.2⟩
    rcases List.mem_append.1 hs with h | h
    · exact hq.1 s h
    · rw [List.mem_singleton] at h
      subst h
      exact ⟨hm.2.1, hm.2.2, hm.1, by show (0 : Int) ≤ 0; omega, by show (0 : Int) ≤ 268435455; omega⟩
  · exact hq
theorem spTo_ok {L : List MsgV} (h : ∀ m ∈ L, MsgOk m) : ∀ k, PairOk (spTo L k)
  | 0 => ⟨fun s hs => by simp [spTo] at hs, fun s hs => by simp [spTo] at hs⟩
  | k + 1 => by
    have ih := spTo_ok h k
    cases hm : L[k]? with
    | none =>
      have e : spTo L (k + 1) = spTo L k := by
        show (match L[k]? with | some m => _ | none => _) = _
        rw [hm]
      rw [e]; exact ih
    | some m =>
      rw [spTo_succ hm]
      exact stepS_ok ih (h m (List.mem_of_getElem? hm))
theorem endTo_ok {L : List MsgV} (h : ∀ m ∈ L, MsgOk m) : ∀ k, 0 ≤ endTo L k ∧ endTo L k ≤ 268435455
  | 0 => by unfold endTo; omega
  | k + 1 => by
    have ih := endTo_ok h k
    cases hm : L[k]? with
    | none =>
      have e : endTo L (k + 1) = endTo L k := by
        show (match L[k]? with | some m => _ | none => _) = _
        rw [hm]
      rw [e]; exact ih
    | some m =>
      rw [endTo_succ hm]
      have := (h m (List.mem_of_getElem? hm)).1
      omega
theorem drainZ_ok {e : Int} (he : 0 ≤ e ∧ e ≤ 268435455) : ∀ k p, PairOk p → PairOk (drainZ e k p)
  | 0, p, hp => hp
  | k + 1, p, hp => by
    unfold drainZ
    split
    · rename_i s hs
      refine drainZ_ok he k _ ⟨fun t ht => ?_, fun t ht => ?_⟩
      · rcases List.mem_append.1 ht with h | h
        · exact hp.1 t (List.mem_of_mem_take h)
        · exact hp.1 t (List.mem_of_mem_drop h)
      · rcases List.mem_append.1 ht with h | h
        · exact hp.2 t h
        · rw [List.mem_singleton] at h
          subst h
          have hx := hp.1 s (List.mem_of_getElem? hs)
          exact ⟨hx.1, hx.2.1, hx.2.2.1, he.1, he.2⟩
    · exact hp
theorem spansZ_ok {L : List MsgV} (h : ∀ m ∈ L, MsgOk m) : ∀ s ∈ spansZ L, SpanOk s := (drainZ_ok (endTo_ok h _) _ _ (spTo_ok h _)).2
def noteTo (zs : List ZoneV) (l : List SpanV) : Nat → List NoteV
  | 0 => []
  | k + 1 => match l[k]? with
    | some s => if (noteZ zs s).2 = true then noteTo zs l k ++ [(noteZ zs s).1] else noteTo zs l k
    | none => noteTo zs l k
theorem noteTo_succ {zs : List ZoneV} {l : List SpanV} {k : Nat} {s : SpanV} (h : l[k]? = some s) : noteTo zs l (k + 1) = if (noteZ zs s).2 = true then noteTo zs l k ++ [(noteZ zs s).1] else noteTo zs l k := by
  show (match l[k]? with | some s => _ | none => _) = _
  rw [h]
theorem noteTo_len (zs : List ZoneV) (l : List SpanV) : ∀ k, (noteTo zs l k).length ≤ k
  | 0 => by simp [noteTo]
  | k + 1 => by
    have ih := noteTo_len zs l k
    unfold noteTo
    split
    · split
      · rw [List.length_append, List.length_singleton]; omega
      · omega
    · omega
def noteCells (L : List NoteV) : List Value := (L.map NoteV.cells).flatten
theorem noteCells_snoc (L : List NoteV) (x : NoteV) : noteCells (L ++ [x]) = noteCells L ++ x.cells := by simp [noteCells]
theorem note_one (x : NoteV) : ∀ u ∈ x.cells, u.oneCell' = true := by
  intro u hu
  simp only [NoteV.cells, List.mem_cons, List.not_mem_nil, or_false] at hu
  rcases hu with rfl | rfl | rfl | rfl | rfl | rfl | rfl | rfl | rfl <;> rfl
theorem note_info : ∃ i, Try.prog.info? 38 = some i ∧ (∃ z, i.zero = some z ∧ z.cells.size = 9) ∧ i.size = 9 ∧ i.bytes = 80 := by
  have h : (Try.prog.info? 38).map (fun i => (i.zero.map (fun z => z.cells.size), i.size, i.bytes)) = some (some 9, 9, 80) := by kernel_rfl
  cases hi : Try.prog.info? 38 with
  | none => rw [hi] at h; cases h
  | some i =>
    rw [hi] at h
    simp at h
    obtain ⟨⟨z, h1, h2⟩, h3, h4⟩ := h
    exact ⟨i, rfl, ⟨z, h1, h2⟩, h3, h4⟩
def NotesPost (W : World) (L : List NoteV) (e : Ending) (w' : World) : Prop := ∃ A c, e = .returned (.slice A L.length c) ∧ L.length ≤ c ∧ c ≤ 9223372036854775807 ∧ Row w' w'.heap.size A (noteCells L) ∧ Below W.heap.size W w'
theorem bnext' {B : Nat} {a b c : World} (h1 : Below B a b) (h2 : Below b.heap.size b c) (hB : B ≤ a.heap.size := by assumption) : Below B a c := h1.trans (h2.mono (Nat.le_trans hB h1.size))
set_option maxRecDepth 100000 in
set_option maxHeartbeats 16000000 in
theorem Notes_any (zs : List ZoneV) (g : Nat) (L : List MsgV) (A0 : Option Addr) (cap0 : Nat) (w : World) (hl : L.length ≤ 1000) (hzl : zs.length ≤ 1000) (hk : KitAt w g zs) (hok : ∀ z ∈ zs, z.ok = true) (hr : Row w w.heap.size A0 (msgCells L)) (hm : ∀ m ∈ L, MsgOk m) (hsn : (spansZ L).length ≤ 1000) :
    Calls Try.prog 9 #[.pointer (some ⟨g, 0, none⟩), .slice A0 L.length cap0] w (NotesPost w (noteTo zs (spansZ L) (spansZ L).length)) := by
  obtain ⟨i0, hi, ⟨z0, hz0, hz0s⟩, hi1, hi2⟩ := note_info
  have HSp := Lib.hid (Spans_any L A0 cap0 w hl hr (fun m h => (hm m h).1))
  have HSo := Lib.hid (spansZ_ok hm)
  have HNt := Lib.hid (fun (s : SpanV) W (h : SpanOk s) (hW : Below w.heap.size w W) => kitNote_any zs g s W hzl (hk.later hW) hok h)
  generalize L.length = n0 at *
  generalize spansZ L = SP at *
  obtain ⟨n, hn⟩ : ∃ n, SP.length = n := ⟨_, rfl⟩
  unfold SpansPost at HSp
  rw [hn] at hsn HSp ⊢
  have Hn := Lib.hid hn
  have Hnl := Lib.hid (noteTo_len zs SP)
  clear hr hm hk hok hn hl
  go_enter Try.func9, Try.ntmps9
  go_wp2_with (go_at_call 10; fail)
  refine HSp.out.mono ?_
  rintro e w1 ⟨A, c, rfl, _, _, hr1, hb1⟩
  have HR := Lib.hid hr1
  have E1 := Lib.hid hb1
  clear hr1 hb1 HSp
  go_wp2_with fail
  go_loopw [5, 13] (fun o v wr => ∃ (k nn : Nat) (A' : Option Addr) (c' : Nat), k ≤ n ∧ v = .int .i64 k ∧ o = .slice A' nn c' ∧ (noteTo zs SP k).length = nn ∧ wr.ownsRow w1.heap.size 38 9 (.slice A' nn c') nn (noteCells (noteTo zs SP k)) ∧ Below w1.heap.size w1 wr) (fun _ v _ => n - (intOf v).toNat)
  case atStart => exact ⟨0, 0, none, 0, by omega, rfl, rfl, rfl, World.ownsRow_nil _ _ _ _, Below.refl _ _⟩
  case round =>
    obtain ⟨k, nn, A', c', hk, rfl, rfl, hnn, hown, hbel⟩ := hrel
    have Hnn := Lib.hid hnn
    have Hown := Lib.hid hown
    have Hbel := Lib.hid hbel
    have Hge := Lib.hid (own_block_ge hown)
    have hnk := Hnl.out k
    rw [hnn] at hnk
    clear hnn hown hbel
    by_cases hlt : k < n
    · have t1 : (k : Int) < (n : Int) := by omega
      have t2 : (0 : Int) ≤ (k : Int) := by omega
      obtain ⟨s, hs⟩ := list_get (k := k) Hn.out hlt
      have HT := Lib.hid (noteTo_succ (zs := zs) hs)
      obtain ⟨b, off, rfl, hb, hc⟩ := span_at HR.out hs
      have HN1 := Lib.hid (fun W hW => HNt.out s W (HSo.out s (List.mem_of_getElem? hs)) hW)
      have Hone := Lib.hid (note_one (noteZ zs s).1)
      have Hsn := Lib.hid (show noteCells (noteTo zs SP k ++ [(noteZ zs s).1]) = noteCells (noteTo zs SP k) ++ (noteZ zs s).1.cells from noteCells_snoc _ _)
      have hx9 : (noteZ zs s).1.cells.length = 9 := rfl
      obtain ⟨sc, sk, sf, st, sh⟩ := s
      have k0 := (Hbel.out.cell (p := ⟨b, off + k * 5 + 0, none⟩) hb).trans (hc 0 _ rfl)
      have k1 := (Hbel.out.cell (p := ⟨b, off + k * 5 + 1, none⟩) hb).trans (hc 1 _ rfl)
      have k2 := (Hbel.out.cell (p := ⟨b, off + k * 5 + 2, none⟩) hb).trans (hc 2 _ rfl)
      have k3 := (Hbel.out.cell (p := ⟨b, off + k * 5 + 3, none⟩) hb).trans (hc 3 _ rfl)
      have k4 := (Hbel.out.cell (p := ⟨b, off + k * 5 + 4, none⟩) hb).trans (hc 4 _ rfl)
      rw [Nat.add_zero] at k0
      have HN2 := Lib.hid (show ∀ W, Below w.heap.size w W → Calls Try.prog 12 #[.pointer (some ⟨g, 0, none⟩), .agg #[.int .i64 sc, .int .i64 sk, .int .i64 sf, .int .i64 st, .int .i64 sh]] W _ from HN1.out)
      obtain ⟨x, hx⟩ : ∃ x, (noteZ zs ⟨sc, sk, sf, st, sh⟩).1 = x := ⟨_, rfl⟩
      obtain ⟨q, hq⟩ : ∃ q, (noteZ zs ⟨sc, sk, sf, st, sh⟩).2 = q := ⟨_, rfl⟩
      rw [hx] at HN2 Hone Hsn hx9 HT
      rw [hq] at HN2 HT
      generalize x.cells = xc at *
      have Hx9 := Lib.hid (show xc.toArray.size = 9 by rw [List.size_toArray, hx9])
      have HFa := Lib.hid (show (Try.prog.info? 38).map (·.size) = some xc.toArray.size by rw [Hx9.out]; kernel_rfl)
      have HxA := Lib.hid (show xc.toArray.all (·.oneCell') = true by
        rw [Array.all_eq_true_iff_forall_mem]
        intro v hv
        exact Hone.out v (by simpa using hv))
      have Hl9 := Lib.hid hx9
      clear hs hc hb hx hq hx9 HN1
      go_wp2_with (go_at_call 12; fail)
      refine (HN2.out _ (bnext (bnext E1.out Hbel.out) (bnew wr _))).mono ?_
      rintro e w3 ⟨rfl, hb3⟩
      have F3 := Lib.hid (bnext (bnew wr (.cells #[.int .i64 sc, .int .i64 sk, .int .i64 sf, .int .i64 st, .int .i64 sh] 42)) hb3)
      have F4 := Lib.hid (bnext F3.out (bnew w3 (.cells xc.toArray 38)))
      have O4 := own_below Hown.out F4.out
      have hz4 := F4.out.size
      have hzw := Hbel.out.size
      clear k0 k1 k2 k3 k4 hb3
      cases q
      · have HT2 := Lib.hid (show noteTo zs SP (k + 1) = noteTo zs SP k from HT.out)
        have O4' := Lib.hid O4
        clear O4 HT
        go_wp2_with (refine wpList_store_row_w rfl 38 (.tmp 8) (.tmp 21) rfl w3.heap.size rfl _ _ xc.toArray rfl (heap_alloc_new w3 _) HFa.out (by rw [Hx9.out]; rfl) HxA.out ?_; rw [World.setRow_alloc_new])
        go_roundw
        case rel => exact ⟨k + 1, nn, A', c', by omega, by go_num, rfl, by rw [HT2.out]; exact Hnn.out, by rw [HT2.out]; exact O4'.out, bnext' Hbel.out F4.out (Nat.le_refl _)⟩
        case measure => simp [intOf]; omega
      · have HT2 := Lib.hid (show noteTo zs SP (k + 1) = noteTo zs SP k ++ [x] from HT.out)
        have hrw := Row.new (w3.alloc (.cells xc.toArray 38)) 38 xc
        have Hrw := Lib.hid hrw
        have Hbs := Lib.hid (show w1.heap.size ≤ ((w3.alloc (.cells xc.toArray 38)).alloc (.cells xc.toArray 38)).heap.size by rw [World.size_alloc]; omega)
        clear HT hrw
        go_wp2_with (first | (refine wpList_store_row_w rfl 38 (.tmp 8) (.tmp 21) rfl w3.heap.size rfl _ _ xc.toArray rfl (heap_alloc_new w3 _) HFa.out (by rw [Hx9.out]; rfl) HxA.out ?_; rw [World.setRow_alloc_new]) | (refine wpList_load_row_w rfl 38 (.tmp 8) rfl w3.heap.size rfl _ xc.toArray _ _ (heap_alloc_new w3 _) Try.underlying38 rfl HFa.out ?_) | (refine wpList_build_n rfl 31 38 (.tmp 25) rfl i0 z0 9 Try.underlying31 hi hz0 hi1 (by omega) (by omega) xc.toArray rfl Hx9.out ?_) | (at_builtin; refine wpList_app _ rfl (.tmp 24) (.tmp 26) 31 rfl w1.heap.size 38 i0 z0 9 80 Try.underlying31 hi hz0 hi1 hi2 hz0s (by omega) (.slice A' nn c') nn (noteCells (noteTo zs SP k)) rfl (O4.alloc _) ((w3.alloc (.cells xc.toArray 38)).heap.size + 1) (some ⟨(w3.alloc (.cells xc.toArray 38)).heap.size, 0, none⟩) 1 1 xc rfl (by rw [Hl9.out]) Hrw.out Hone.out (by omega) (by omega) Hbs.out ?_; intro A2 c2 w5 hown5 hgr5 hat5 hcc5))
        go_roundw
        case rel =>
          have hb5 : Below w1.heap.size w1 w5 := ((bnext' Hbel.out F4.out (Nat.le_refl _)).alloc (by omega) (.cells xc.toArray 38)).grown hgr5 Hbs.out (fun g h => Hge.out g h)
          exact ⟨k + 1, nn + 1, A2, c2, by omega, by go_num, rfl, by rw [HT2.out, List.length_append, Hnn.out]; rfl, by rw [HT2.out, Hsn.out]; exact hown5, hb5⟩
        case measure => simp [intOf]; omega
    · have hkn : k = n := by omega
      subst hkn
      have t1 : ¬ ((k : Int) < (k : Int)) := by omega
      have Hc2 := Lib.hid (own_form Hown.out)
      go_wp2
      go_ret
      obtain ⟨A2', c2', e1, h1, _⟩ := Hc2.out
      injection e1 with e1 e2 e3
      subst e1 e3
      exact ⟨A', c', by rw [Hnn.out]; rfl, by rw [Hnn.out]; exact h1, own_cap Hown.out, Row.of_own Hown.out, bnext E1.out Hbel.out⟩
end Go.Proofs.Ytbgkoopfdfnmcaa

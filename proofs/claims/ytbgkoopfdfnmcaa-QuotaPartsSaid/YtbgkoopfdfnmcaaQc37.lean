/- SampD. Conditions: as each theorem states. -/
import Derived.Test.YtbgkoopfdfnmcaaQc05
import Derived.Test.YtbgkoopfdfnmcaaQc34
import Derived.Test.YtbgkoopfdfnmcaaQc36

namespace Go.Proofs.Ytbgkoopfdfnmcaa
open Go.RowKit

/-- a sample of few rows of few samples -/
def SampV.small (s : SampV) : Prop := s.name.size ≤ 100 ∧ s.rows.length ≤ 4 ∧ ∀ r ∈ s.rows, r.length ≤ 150
def FewsPost (W : World) (e : Ending) (w' : World) : Prop :=
  ∃ A c L', e = .returned (.slice A (List.length L') c) ∧ List.length L' ≤ 8 ∧ List.length L' ≤ c ∧ c ≤ 9223372036854775807 ∧ (A = none → c = 0) ∧ SampsAt w' w'.heap.size A L' ∧ (∀ p ∈ L', p.2.small) ∧ Below W.heap.size W w'
theorem headCells_snoc (L : List (HSamp × SampV)) (p : HSamp × SampV) : headCells (L ++ [p]) = headCells L ++ p.1.cells := by simp [headCells]

/-- a row that an append does not touch -/
theorem Row.aside {w w' : World} {B : Nat} {a : Option Addr} {vs : List Value} {row : Option Nat} (h : Row w B a vs) (hB : B ≤ w.heap.size) (hg : w.grownBy w' row) (ha : ∀ ad, a = some ad → row ≠ some ad.block) : Row w' B a vs := by
  intro i v hv
  obtain ⟨b, off, he, hb, hc⟩ := h i v hv
  refine ⟨b, off, he, hb, ?_⟩
  rw [World.cell?_of_block (w := w) (hg.block b (by omega) (fun h2 => ha _ he h2.symm))]
  exact hc
theorem RowsAt.aside {w w' : World} {B : Nat} {vs : List Value} {rows : List (List Int)} {row : Option Nat} (h : RowsAt w B vs rows) (hB : B ≤ w.heap.size) (hg : w.grownBy w' row) (ha : ∀ g, row = some g → B ≤ g) : RowsAt w' B vs rows := by
  refine ⟨h.1, fun i v xs hv hx => ?_⟩
  obtain ⟨a, cap, h1, h2, h3, h4⟩ := h.2 i v xs hv hx
  refine ⟨a, cap, h1, h2, h3, fun j u hu => ?_⟩
  obtain ⟨b, off, he, hb, hc⟩ := h4 j u hu
  refine ⟨b, off, he, hb, ?_⟩
  rw [World.cell?_of_block (w := w) (hg.block b (by omega) (fun h2 => by have := ha _ h2.symm; omega))]
  exact hc
theorem rows_lt {w : World} {B : Nat} {a : Option Addr} {vs : List Value} {rows : List (List Int)} (h : Row w B a vs) (hl : vs.length = rows.length) (hne : rows ≠ []) {ad : Addr} (ha : a = some ad) : ad.block < B := by
  have : 0 < vs.length := by rw [hl]; exact List.length_pos_iff.2 hne
  obtain ⟨b, off, he, hb, _⟩ := h 0 vs[0] (List.getElem?_eq_getElem this)
  rw [ha] at he
  injection he with he
  rw [he]; exact hb
theorem own_block_lt {w : World} {base : Nat} {e : TypeId} {size n : Nat} {v : Value} {xs : List Value} (h : w.ownsRow base e size v n xs) : ∀ k, v.ownBlock = some k → k < w.heap.size := by
  intro k hk
  rcases h.2 with ⟨rfl, _⟩ | ⟨g, cap, cur, rfl, hb, hh, _⟩
  · simp [Value.ownBlock] at hk
  · have e : g = k := by simpa [Value.ownBlock] using hk
    subst e
    rcases Nat.lt_or_ge g w.heap.size with h | h
    · exact h
    · rw [Array.getElem?_eq_none h] at hh; cases hh
/-- cells stand for a sample whose rows' samples are older, and whose rows lie elsewhere -/
def Stands (B : Nat) (w : World) (row : Option Nat) (p : HSamp × SampV) : Prop :=
  (p.1.nm = p.2.name ∧ p.1.rate = p.2.rate ∧ p.1.lp = p.2.lp ∧ p.1.f = p.2.f ∧ p.1.t = p.2.t ∧ p.1.len = p.2.rows.length) ∧ p.2.rows.length ≤ p.1.cap ∧ p.1.cap ≤ 9223372036854775807 ∧
    (∃ vs, Row w w.heap.size p.1.a vs ∧ RowsAt w B vs p.2.rows) ∧ ∀ ad, p.1.a = some ad → p.2.rows ≠ [] → row ≠ some ad.block ∧ ad.block < w.heap.size
theorem Stands.fits {B : Nat} {w : World} {row : Option Nat} {p : HSamp × SampV} (h : Stands B w row p) (hB : B ≤ w.heap.size) : p.1.fits w w.heap.size p.2 := by
  obtain ⟨h1, h2, h3, ⟨vs, h4, h5⟩, _⟩ := h
  exact ⟨h1, h2, h3, vs, h4, h5.more hB⟩
theorem Stands.below {B : Nat} {w w' : World} {row : Option Nat} {p : HSamp × SampV} (h : Stands B w row p) (hB : B ≤ w.heap.size) (hb : Below w.heap.size w w') : Stands B w' row p := by
  obtain ⟨h1, h2, h3, ⟨vs, h4, h5⟩, h6⟩ := h
  exact ⟨h1, h2, h3, ⟨vs, h4.later hb, h5.below (hb.mono hB)⟩, fun ad had hne => ⟨(h6 ad had hne).1, Nat.lt_of_lt_of_le (h6 ad had hne).2 hb.size⟩⟩
theorem Stands.grown {B : Nat} {w w' : World} {row row' : Option Nat} {p : HSamp × SampV} (h : Stands B w row p) (hB : B ≤ w.heap.size) (hg : w.grownBy w' row) (ho : ∀ g, row = some g → B ≤ g) (hr : row' = row ∨ row' = some w.heap.size) : Stands B w' row' p := by
  obtain ⟨h1, h2, h3, ⟨vs, h4, h5⟩, h6⟩ := h
  have hrow : Row w' w.heap.size p.1.a vs := by
    by_cases hne : p.2.rows = []
    · have : vs = [] := by
        have := h5.1
        rw [hne] at this
        exact List.length_eq_zero_iff.1 this
      rw [this]; exact Row.none_ _ _ _
    · exact h4.aside (Nat.le_refl _) hg fun ad had => (h6 ad had hne).1
  refine ⟨h1, h2, h3, ⟨vs, hrow.more hg.size, h5.aside hB hg ho⟩, fun ad had hne => ⟨?_, Nat.lt_of_lt_of_le (h6 ad had hne).2 hg.size⟩⟩
  rcases hr with rfl | rfl
  · exact (h6 ad had hne).1
  · intro he
    injection he with he
    have := (h6 ad had hne).2
    omega

set_option maxRecDepth 100000 in
set_option maxHeartbeats 4000000 in
theorem Few15_any (L : List (HSamp × SampV)) (A : Option Addr) (cap : Nat) (w : World) (hs : SampsAt w w.heap.size A L) (hnm : ∀ p ∈ L, p.2.name.size ≤ 9223372036854775807) :
    Calls Try.prog 21 #[.slice A L.length cap] w (FewsPost w) := by
  obtain ⟨i0, hi, hz0, hz1, hz2⟩ := info_parts inf_samp
  obtain ⟨n, hn'⟩ : ∃ n, L.length = n := ⟨_, rfl⟩
  have Hn := Lib.hid hn'
  have Hs := Lib.hid hs
  have Hnm := Lib.hid hnm
  rw [hn']
  clear hn' hs hnm
  go_enter Try.func21, Try.ntmps21
  go_wp2
  go_loopw [3, 4] (fun o i wr => ∃ (k : Nat) (M : List (HSamp × SampV)) (A' : Option Addr) (c : Nat), k ≤ n ∧ k ≤ 8 ∧ i = .int .i64 k ∧ M.length = k ∧ o = .slice A' k c ∧
      wr.ownsRow w.heap.size 51 6 (.slice A' k c) k (headCells M) ∧ (∀ p ∈ M, Stands w.heap.size wr (Value.slice A' k c).ownBlock p) ∧ (∀ p ∈ M, p.2.small) ∧ Below w.heap.size w wr) (fun _ i _ => n - (intOf i).toNat)
  case atStart => exact ⟨0, [], none, 0, Nat.zero_le _, by omega, rfl, rfl, rfl, World.ownsRow_nil _ _ _ _, nofun, nofun, Below.refl _ _⟩
  case round =>
    obtain ⟨k, M, A', c, hk, hk8, rfl, hM, rfl, hown, hfit, hsm, hbel⟩ := hrel
    have HM := Lib.hid hM
    have Hown := Lib.hid hown
    have Hfit := Lib.hid hfit
    have Hsm := Lib.hid hsm
    have Hbel := Lib.hid hbel
    have Hge := Lib.hid (own_block_ge hown)
    clear hM hown hfit hsm hbel
    by_cases hlt : k < n ∧ k < 8
    · obtain ⟨hlt, hlt8⟩ := hlt
      have t1 : (k : Int) < (n : Int) := by omega
      have t2 : (k : Int) < 8 := by omega
      obtain ⟨p, hp⟩ := list_get (k := k) Hn.out hlt
      have hmem := List.mem_of_getElem? hp
      obtain ⟨b, off, rfl, hb, hc⟩ := samp_at Hs.out.row hp
      have hft := Hs.out.fits p hmem
      have hnb := Hnm.out p hmem
      obtain ⟨⟨nm, rate, lp, f, t, a, len, cp⟩, s⟩ := p
      obtain ⟨⟨e1, e2, e3, e4, e5, e6⟩, h2, h3, vs, h4, h5⟩ := hft
      simp only [HSamp.cells] at hc h2 h3 h4 h5 e1 e2 e3 e4 e5 e6 hnb
      have HB := Lib.hid (fun W (hW : Below w.heap.size w W) j v (hv : ([.string nm, .int .i64 rate, .bool lp, .int .i64 f, .int .i64 t, .slice a len cp] : List Value)[j]? = some v) => (hW.cell (p := ⟨b, off + k * 6 + j, none⟩) hb).trans (hc j v hv))
      have c0 := HB.out _ Hbel.out 0 _ rfl
      have c1 := HB.out _ Hbel.out 1 _ rfl
      have c2 := HB.out _ Hbel.out 2 _ rfl
      have c3 := HB.out _ Hbel.out 3 _ rfl
      have c4 := HB.out _ Hbel.out 4 _ rfl
      have c5 := HB.out _ Hbel.out 5 _ rfl
      rw [Nat.add_zero] at c0
      have HQ := Lib.hid (show Calls Try.prog 15 #[.agg #[.string nm, .int .i64 rate, .bool lp, .int .i64 f, .int .i64 t, .slice a len cp]] wr (FewPost wr w.heap.size rate lp f t) by
        have := Few_any nm rate lp f t a cp vs s.rows wr (by rw [e1]; exact hnb) w.heap.size Hbel.out.size (h4.below Hbel.out) (h5.below Hbel.out)
        rw [← e6] at this; exact this)
      clear hc hp hmem h4 h5 h2 h3 e1 e2 e3 e4 e5 e6 hnb
      go_wp2_with fail
      refine HQ.out.mono ?_
      rintro e w1 ⟨nm', a', cap', vs', rows', rfl, g1, g2, g3, g4, g5, g6, g7, g8, hb1⟩
      have own1 := own_below Hown.out hb1
      have Hb1X := Lib.hid (bnext Hbel.out hb1)
      have hsz1 := Nat.le_trans Hbel.out.size hb1.size
      have Hfit1 := Lib.hid (fun p hp => (Hfit.out p hp).below Hbel.out.size hb1)
      have HG := Lib.hid (show Stands w.heap.size w1 (Value.slice A' k c).ownBlock (HSamp.mk nm' rate lp f t a' rows'.length cap', SampV.mk nm' rate lp f t rows') from
        ⟨⟨rfl, rfl, rfl, rfl, rfl, rfl⟩, g3, g4, ⟨vs', g6, g8⟩, fun ad had hne => ⟨fun he => by have := g7 ad had; have := own_block_lt Hown.out _ he; omega, rows_lt g6 g8.1 hne had⟩⟩)
      have HS := Lib.hid (show (SampV.mk nm' rate lp f t rows').small from ⟨g1, g2, g5⟩)
      generalize rows'.length = R' at *
      clear c0 c1 c2 c3 c4 c5 g1 g2 g3 g4 g5 g6 g8 hb1 HQ
      go_wp2_with (at_builtin; refine wpList_app _ rfl (.tmp 15) (.tmp 21) 48 rfl w.heap.size 51 i0 _ 6 72 Try.underlying48 hi hz0 hz1 hz2 rfl (by omega) _ k (headCells M) rfl (own1.alloc _) (w1.heap.size + 1) (some ⟨w1.heap.size, 0, none⟩) 1 1 [.string nm', .int .i64 rate, .bool lp, .int .i64 f, .int .i64 t, .slice a' R' cap'] rfl rfl (Row.new w1 _ _) (hs_one ⟨0, ⟨nm', rate, lp, f, t, a', R', cap'⟩, default⟩) (by omega) (by omega) (by simp; omega) ?_; intro A2 cc w2 hown2 hgrow hat hcc)
      go_roundw
      case rel =>
        have hb2 : Below w.heap.size w w2 := ((Hb1X.out).alloc (by omega) _).grown hgrow (by simp; omega) (fun g h => Hge.out g h)
        have hrow : (Value.slice A2 (k + 1) cc).ownBlock = (Value.slice A' k c).ownBlock ∨ (Value.slice A2 (k + 1) cc).ownBlock = some (w1.alloc (.cells #[.string nm', .int .i64 rate, .bool lp, .int .i64 f, .int .i64 t, .slice a' R' cap'] 51)).heap.size := hat
        have hst : ∀ p, Stands w.heap.size w1 (Value.slice A' k c).ownBlock p → Stands w.heap.size w2 (Value.slice A2 (k + 1) cc).ownBlock p := fun p hp => (hp.below hsz1 (bnew w1 _)).grown (by simp; omega) hgrow (fun g h => Hge.out g h) hrow
        refine ⟨k + 1, M ++ [(HSamp.mk nm' rate lp f t a' R' cap', SampV.mk nm' rate lp f t rows')], A2, cc, by omega, by omega, by go_num, by simp [HM.out], rfl, ?_, ?_, ?_, hb2⟩
        · rw [headCells_snoc]; exact hown2
        · intro p hp
          rcases List.mem_append.1 hp with h | h
          · exact hst p (Hfit1.out p h)
          · rw [List.mem_singleton] at h; subst h; exact hst _ HG.out
        · intro p hp
          rcases List.mem_append.1 hp with h | h
          · exact Hsm.out p h
          · rw [List.mem_singleton] at h; subst h; exact HS.out
      case measure => simp [intOf]; omega
    · have hk' : k = n ∨ k = 8 := by omega
      obtain ⟨A3, c3, he, h1, h2⟩ := own_form Hown.out
      injection he with e1 _ e3
      subst e1 e3
      have HFin := Lib.hid (show FewsPost w (.returned (.slice A' k c)) wr from ⟨A', c, M, by rw [HM.out], by rw [HM.out]; exact hk8, by rw [HM.out]; exact h1, own_cap Hown.out, fun h => (h2 h).2, ⟨Row.of_own Hown.out, fun p hp => (Hfit.out p hp).fits Hbel.out.size⟩, Hsm.out, Hbel.out⟩)
      rcases hk' with hk' | hk'
      · have t1 : ¬ ((k : Int) < (n : Int)) := by omega
        have HK := Lib.hid hk'
        clear h1 h2 hk' hlt
        go_wp2
        go_ret
        exact HFin.out
      · have t2 : ¬ ((k : Int) < 8) := by omega
        by_cases h3 : k < n
        · have t1 : (k : Int) < (n : Int) := by omega
          have HK := Lib.hid hk'
          clear h1 h2 hk' hlt hk8
          go_wp2
          go_ret
          exact HFin.out
        · have t1 : ¬ ((k : Int) < (n : Int)) := by omega
          have HK := Lib.hid hk'
          clear h1 h2 hk' hlt hk8
          go_wp2
          go_ret
          exact HFin.out
end Go.Proofs.Ytbgkoopfdfnmcaa

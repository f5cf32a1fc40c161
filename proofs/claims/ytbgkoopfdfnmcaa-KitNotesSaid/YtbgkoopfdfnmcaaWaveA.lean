/- Contracts of the functions of layer 14 (names, loops, directories, places) and the walk of the law WaveMetas; conditions: as each theorem states. -/
import Derived.Test.YtbgkoopfdfnmcaaShape
namespace Go.Proofs.Ytbgkoopfdfnmcaa
open Go.RowKit

/-- a byte of a name -/
def okByte (c : UInt8) : Bool := decide (33 ≤ c.toNat) && decide (c.toNat ≤ 126)
/-- a text that may be a name -/
def isName (s : ByteArray) : Bool := decide (1 ≤ s.size) && decide (s.size ≤ 32) && s.data.toList.all okByte

theorem okByte_snoc (s : ByteArray) (k : Nat) (h : k < s.size) : (s.data.toList.take (k+1)).all okByte = ((s.data.toList.take k).all okByte && okByte s[k]) := by
  have h' : k < s.data.toList.length := by simpa using h
  rw [List.take_succ_eq_append_getElem h', List.all_append]; simp; rfl
theorem isName_false (s : ByteArray) (k : Nat) (h : k < s.size) (hb : okByte s[k] = false) : isName s = false := by
  have h' : k < s.data.toList.length := by simpa using h
  have : s.data.toList.all okByte = false := by
    rw [List.all_eq_false]
    exact ⟨s.data.toList[k], List.getElem_mem h', by rw [show s.data.toList[k] = s[k] from rfl, hb]; simp⟩
  unfold isName; simp only [this, Bool.and_false]
theorem isName_true (s : ByteArray) (h0 : s.size ≠ 0) (h1 : s.size ≤ 32) (h : s.data.toList.all okByte = true) : isName s = true := by
  have h2 : decide (1 ≤ s.size) = true := decide_eq_true (by omega)
  have h3 : decide (s.size ≤ 32) = true := decide_eq_true h1
  unfold isName; rw [h, h2, h3]; rfl
theorem okByte_false (c : UInt8) (h : (c.toNat : Int) ≤ 32 ∨ 127 ≤ (c.toNat : Int)) : okByte c = false := by
  unfold okByte; simp only [Bool.and_eq_false_iff, decide_eq_false_iff_not]; omega
theorem okByte_true (c : UInt8) (h : 32 < (c.toNat : Int) ∧ (c.toNat : Int) < 127) : okByte c = true := by
  unfold okByte; simp only [Bool.and_eq_true, decide_eq_true_eq]; omega
set_option maxHeartbeats 400000 in
theorem IsName_any (s : ByteArray) (w : World) :
    Calls Try.prog 47 #[.string s] w fun e w' => e = .returned (.bool (isName s)) ∧ w = w' := by
  by_cases h0 : s.size = 0
  · have H : isName s = false := by unfold isName; simp [h0]
    obtain rfl := bytes_empty h0
    rw [H]
    go_enter Try.func47, Try.ntmps47
    go_wp2
    go_ret
    exact ⟨rfl, rfl⟩
  · have h1 := bytes_nonempty h0
    by_cases h2 : 32 < s.size
    · have H : isName s = false := by unfold isName; simp; omega
      rw [H]
      go_enter Try.func47, Try.ntmps47
      go_wp2
      go_ret
      exact ⟨rfl, rfl⟩
    · go_enter Try.func47, Try.ntmps47
      go_wp2
      go_loop [13] (fun i => ∃ k : Nat, k ≤ s.size ∧ i = .int .i64 k ∧ (s.data.toList.take k).all okByte = true) (fun i => s.size - (intOf i).toNat)
      case atStart => exact ⟨0, Nat.zero_le _, rfl, by simp⟩
      case round =>
        obtain ⟨k, hk, rfl, hall⟩ := hrel
        have Hall := Lib.hid hall; clear hall
        by_cases hlt : k < s.size
        · go_wp2
          · go_ret
            rw [isName_false s k hlt (okByte_false _ (by assumption))]
            exact ⟨rfl, rfl⟩
          · go_round
            case rel => exact ⟨k + 1, by omega, by go_num, by rw [okByte_snoc s k hlt, Hall.out, okByte_true _ (by assumption)]; rfl⟩
            case measure => simp [intOf]; omega
          · go_ret
            rw [isName_false s k hlt (okByte_false _ (.inl (by assumption)))]
            exact ⟨rfl, rfl⟩
        · go_wp2
          go_ret
          rw [isName_true s h0 (by omega) (by rw [List.take_of_length_le (by simp; omega)] at Hall; exact Hall.out)]
          exact ⟨rfl, rfl⟩

theorem isName_rest (s : ByteArray) (k : Nat) (h : (s.data.toList.take k).all okByte = true) (hend : s.size = k ∨ 33 ≤ k) (h0 : 0 < s.size) :
    decide ((s.size : Int) < 33) = isName s := by
  have h2 : decide (1 ≤ s.size) = true := decide_eq_true (by omega)
  unfold isName
  by_cases h33 : s.size < 33
  · have e : s.data.toList.take k = s.data.toList := List.take_of_length_le (by simp; omega)
    rw [e] at h
    have h3 : decide (s.size ≤ 32) = true := decide_eq_true (by omega)
    rw [h, h2, h3]
    exact decide_eq_true (by omega)
  · have h3 : decide (s.size ≤ 32) = false := decide_eq_false (by omega)
    rw [h2, h3]
    exact decide_eq_false (by omega)

set_option maxHeartbeats 400000 in
/-- the law's own name -/
theorem lawname_any (s : ByteArray) (w : World) (hs : s.size ≤ 9223372036854775807) :
    Calls Try.prog 36 #[.string s] w fun e w' => e = .returned (.bool (isName s)) ∧ w = w' := by
  go_enter Try.func36, Try.ntmps36
  go_wp2
  go_loop [3] (fun i => ∃ k : Nat, k ≤ s.size ∧ k ≤ 40 ∧ i = .int .i64 k ∧ (s.data.toList.take k).all okByte = true) (fun i => s.size - (intOf i).toNat)
  case atStart => exact ⟨0, Nat.zero_le _, by omega, rfl, by simp⟩
  case round =>
    obtain ⟨k, hk, hk2, rfl, hall⟩ := hrel
    have Hall := Lib.hid hall; clear hall
    by_cases hlt : k < s.size ∧ k < 40
    · obtain ⟨hlt, h40⟩ := hlt
      go_wp2
      · go_ret
        exact ⟨ret_bool (isName_false s k hlt (okByte_false _ (by omega))).symm, rfl⟩
      · go_round
        case rel => exact ⟨k + 1, by omega, by omega, by go_num, by rw [okByte_snoc s k hlt, Hall.out, okByte_true _ (by omega)]; rfl⟩
        case measure => simp [intOf]; omega
      · go_ret
        exact ⟨ret_bool (isName_false s k hlt (okByte_false _ (by omega))).symm, rfl⟩
    · by_cases h0 : s.size = 0
      · have H := Lib.hid (show isName s = false by unfold isName; simp [h0])
        go_wp2
        go_ret
        exact ⟨ret_bool H.out.symm, rfl⟩
      · go_wp2
        all_goals
          go_ret
          exact ⟨ret_bool (isName_rest s k Hall.out (by omega) (by omega)), rfl⟩

/-- may a loop be? -/
def loopOk (is : Bool) (f t n : Int) : Bool := if is then decide (0 ≤ f) && decide (f < t) && decide (t ≤ n) else decide (f = 0) && decide (t = 0)

set_option maxHeartbeats 400000 in
theorem waveloop_any (b : Bool) (f t n : Int) (w : World) :
    Calls Try.prog 56 #[.bool b, .int .i64 f, .int .i64 t, .int .i64 n] w fun e w' => e = .returned (.bool (loopOk b f t n)) ∧ w = w' := by
  cases b
  all_goals
    go_enter Try.func56, Try.ntmps56
    go_wp2
    all_goals
      go_ret
      exact ⟨ret_bool (by rw [Bool.eq_iff_iff]; simp [loopOk]; omega), rfl⟩

set_option maxHeartbeats 400000 in
theorem lawloop_any (b : Bool) (f t n : Int) (w : World) :
    Calls Try.prog 37 #[.bool b, .int .i64 f, .int .i64 t, .int .i64 n] w fun e w' => e = .returned (.bool (loopOk b f t n)) ∧ w = w' := by
  cases b
  all_goals
    go_enter Try.func37, Try.ntmps37
    go_wp2
    all_goals
      go_ret
      exact ⟨ret_bool (by rw [Bool.eq_iff_iff]; simp [loopOk]; omega), rfl⟩

/-- a directory's word on a sample -/
structure MetaV where
  name : ByteArray
  length : Int
  rate : Int
  channels : Int
  loop : Bool
  from_ : Int
  to_ : Int
  sums : Int
  first : Int
def MetaV.val (m : MetaV) : Value := .agg #[.string m.name, .int .i64 m.length, .int .i64 m.rate, .int .i64 m.channels, .bool m.loop, .int .i64 m.from_, .int .i64 m.to_, .int .i64 m.sums, .int .i64 m.first]
def MetaV.right (m : MetaV) : Bool := isName m.name && decide (1 ≤ m.length) && decide (m.length ≤ 1048576) && decide (1 ≤ m.rate) && decide (m.rate ≤ 192000) && (decide (m.channels = 1) || decide (m.channels = 2)) && loopOk m.loop m.from_ m.to_ m.length

/-- where a place lies -/
def unroll (m : MetaV) (at_ : Int) : Int :=
  if at_ < 0 then -1
  else if m.loop = false then (if m.length ≤ at_ then -1 else at_)
  else if at_ < m.to_ then at_
  else m.from_ + (at_ - m.from_) % (m.to_ - m.from_)

theorem unroll_bd (m : MetaV) (a : Int) (hl : m.loop = true → 0 ≤ m.from_ ∧ m.from_ < m.to_ ∧ m.to_ ≤ m.length) : -1 ≤ unroll m a ∧ unroll m a < max m.length 0 := by
  unfold unroll
  split
  · omega
  · split
    · split <;> omega
    · rename_i h
      have h := hl (by simpa using h)
      split
      · omega
      · have := Int.emod_nonneg (a - m.from_) (b := m.to_ - m.from_) (by omega)
        have := Int.emod_lt_of_pos (a - m.from_) (b := m.to_ - m.from_) (by omega)
        omega

set_option maxHeartbeats 1000000 in
theorem Unroll_any (nm : ByteArray) (len rate ch : Int) (lp : Bool) (f t s1 s2 a : Int) (w : World)
    (hl : lp = true → 0 ≤ f ∧ f < t ∧ t ≤ len) (h1 : 0 ≤ len) (h2 : len ≤ 4294967296) (ha : -9223372036854775808 ≤ a) (ha2 : a ≤ 9223372036854775807) :
    Calls Try.prog 44 #[.agg #[.string nm, .int .i64 len, .int .i64 rate, .int .i64 ch, .bool lp, .int .i64 f, .int .i64 t, .int .i64 s1, .int .i64 s2], .int .i64 a] w
      fun e w' => e = .returned (.int .i64 (unroll ⟨nm, len, rate, ch, lp, f, t, s1, s2⟩ a)) ∧ Below w.heap.size w w' := by
  cases lp
  · clear hl
    go_enter Try.func44, Try.ntmps44
    go_wp2
    all_goals
      go_ret
      exact ⟨ret_int (by unfold unroll; simp; omega), (Below.refl _ _).alloc (Nat.le_refl _) _⟩
  · obtain ⟨h3, h4, h5⟩ := hl rfl
    clear hl
    by_cases hb : t ≤ a
    · have hd : ((t - f : Int) == 0) = false := beq_eq_false_iff_ne.2 (by omega)
      have hm0 := Int.emod_nonneg (a - f) (b := t - f) (by omega)
      have hm1 := Int.emod_lt_of_pos (a - f) (b := t - f) (by omega)
      go_enter Try.func44, Try.ntmps44
      go_wp2
      go_quiet (fail)
      go_wp2
      go_ret
      exact ⟨ret_int (by unfold unroll; simp; omega), below_drewN ((Below.refl _ _).alloc (Nat.le_refl _) _) _⟩
    · go_enter Try.func44, Try.ntmps44
      go_wp2
      all_goals
        go_ret
        exact ⟨ret_int (by unfold unroll; simp; omega), (Below.refl _ _).alloc (Nat.le_refl _) _⟩

set_option maxHeartbeats 400000 in
theorem awake14_any (w : World) :
    Calls Try.prog 20 #[] w fun e w' => e = .returned (.bool true) ∧ Below w.heap.size w w' := by
  go_enter Try.func20, Try.ntmps20
  go_wp2_with (go_at_call 44; refine (Unroll_any _ _ _ _ _ _ _ _ _ _ _ (by omega) (by omega) (by omega) (by omega) (by omega)).mono ?_; rintro e w' ⟨rfl, hb⟩; rw [show unroll ⟨⟨#[97]⟩, 9, 1, 1, true, 2, 5, 0, 0⟩ 6 = 3 from rfl])
  go_ret
  exact ⟨rfl, hb⟩

end Go.Proofs.Ytbgkoopfdfnmcaa

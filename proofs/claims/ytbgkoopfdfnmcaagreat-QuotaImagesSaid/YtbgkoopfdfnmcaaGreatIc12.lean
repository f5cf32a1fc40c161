/- ToneD, ToneE. Conditions: as each theorem states. -/
import Derived.Ground.SlsfProg
import Derived.IntWalk
import Derived.Deep.RegionWith
import Derived.Test.YtbgkoopfdfnmcaaGreatIc10
import Derived.Test.YtbgkoopfdfnmcaaGreatIc09
import Derived.Test.YtbgkoopfdfnmcaaGreatIc11

namespace Go.Proofs.YtbgkoopfdfnmcaaGreat
open Go.RowKit Go.Shelf

/-- a value of a spectrum that stands alone -/
structure ToneV where
  idx : Int
  val : Int
deriving DecidableEq
def ToneV.cells (t : ToneV) : List Value := [.int .i64 t.idx, .int .i64 t.val]
def ToneV.big (t : ToneV) : Prop := (-2305843009213693952 ≤ t.idx ∧ t.idx ≤ 2305843009213693952) ∧ -4611686018427387904 ≤ t.val ∧ t.val ≤ 4611686018427387904
/-- .. far from the ends of 64 bits -/
structure BTone where
  t : ToneV
  h : t.big
instance : Inhabited BTone := ⟨⟨⟨0, 0⟩, by simp [ToneV.big]⟩⟩
def BTone.cells (t : BTone) : List Value := t.t.cells
theorem bt_len : ∀ x : BTone, x.cells.length = 2 := fun _ => rfl
theorem bt_one : ∀ x : BTone, ∀ v ∈ x.cells, v.oneCell' = true := by
  intro x v hv
  simp only [BTone.cells, ToneV.cells, List.mem_cons, List.not_mem_nil, or_false] at hv
  rcases hv with rfl | rfl <;> rfl
def cmpLoud (x y : BTone) : Int := clampZ (absZ y.t.val - absZ x.t.val) (-1) 1
def cmpIdx (x y : BTone) : Int := x.t.idx - y.t.idx

theorem drewN_grow (W : World) (o1 o2 : Obj) (n : Nat) : ((W.alloc o1).alloc o2).drewN n = Sort.grow (W.drewN n) #[o1, o2] := by
  rw [Sort.alloc_eq_grow, Sort.alloc_eq_grow, Sort.grow_grow]
  rfl

set_option maxRecDepth 100000 in
theorem loud_any (xi xv yi yv : Int) (W : World) (h1 : -4611686018427387904 ≤ xv ∧ xv ≤ 4611686018427387904) (h2 : -4611686018427387904 ≤ yv ∧ yv ≤ 4611686018427387904) :
    Calls Tryz.prog 107 #[.agg #[.int .i64 xi, .int .i64 xv], .agg #[.int .i64 yi, .int .i64 yv]] W fun e w' => e = .returned (.int .i64 (clampZ (absZ yv - absZ xv) (-1) 1)) ∧ ∃ n, w' = ((W.alloc (.cells #[.int .i64 xi, .int .i64 xv] 118)).alloc (.cells #[.int .i64 yi, .int .i64 yv] 118)).drewN n := by
  have b1 := absZ_bd h1
  have b2 := absZ_bd h2
  have HX := Lib.hid (fun W => Abs_any xv W (by omega) (by omega))
  have HY := Lib.hid (fun W => Abs_any yv W (by omega) (by omega))
  obtain ⟨b11, b12⟩ := b1
  obtain ⟨b21, b22⟩ := b2
  generalize absZ xv = a at *
  generalize absZ yv = c at *
  have hwr : IntKind.i64.wrap (c - a) = c - a := IntWalk.i64_in _ (by omega)
  clear h1 h2
  go_enter Tryz.func107, Tryz.ntmps107
  go_wp2
  go_quiet ((first | (go_at_call_of 27 (Value.int .i64 xv); exact Calls.quiet_of_same ((HX.out _).mono fun _ _ h => ⟨h.1, h.2.symm⟩)) | (go_at_call_of 27 (Value.int .i64 yv); exact Calls.quiet_of_same ((HY.out _).mono fun _ _ h => ⟨h.1, h.2.symm⟩)) | (go_at_call 58; exact Calls.quiet_of_same ((Clamp_any _ _ _ _).mono fun _ _ h => ⟨h.1, h.2.symm⟩))))
  go_wp2
  go_ret
  exact ⟨rfl, _, rfl⟩

set_option maxRecDepth 100000 in
theorem idx_any (xi xv yi yv : Int) (W : World) (h1 : -2305843009213693952 ≤ xi ∧ xi ≤ 2305843009213693952) (h2 : -2305843009213693952 ≤ yi ∧ yi ≤ 2305843009213693952) :
    Calls Tryz.prog 109 #[.agg #[.int .i64 xi, .int .i64 xv], .agg #[.int .i64 yi, .int .i64 yv]] W fun e w' => e = .returned (.int .i64 (xi - yi)) ∧ w' = ((W.alloc (.cells #[.int .i64 xi, .int .i64 xv] 118)).alloc (.cells #[.int .i64 yi, .int .i64 yv] 118)) := by
  obtain ⟨h11, h12⟩ := h1
  obtain ⟨h21, h22⟩ := h2
  go_enter Tryz.func109, Tryz.ntmps109
  go_wp2
  go_ret
  exact ⟨rfl, rfl⟩

theorem loud_lays (blk off size : Nat) (w : World) : CmpLays Tryz.prog 107 #[] BTone.cells 2 cmpLoud blk off size w := by
  intro m os dk _ x y
  generalize sortWorldK BTone.cells 2 w blk off m dk os = W
  refine (loud_any x.t.idx x.t.val y.t.idx y.t.val W x.h.2 y.h.2).mono ?_
  rintro e w' ⟨he, n, hw⟩
  exact ⟨he, n, _, hw.trans (drewN_grow _ _ _ _)⟩
theorem idx_lays (blk off size : Nat) (w : World) : CmpLays Tryz.prog 109 #[] BTone.cells 2 cmpIdx blk off size w := by
  intro m os dk _ x y
  generalize sortWorldK BTone.cells 2 w blk off m dk os = W
  refine (idx_any x.t.idx x.t.val y.t.idx y.t.val W x.h.1 y.h.1).mono ?_
  rintro e w' ⟨he, hw⟩
  exact ⟨he, 0, _, hw.trans (drewN_grow W _ _ 0)⟩

/-! slices.insertionSortCmpFunc at this program. -/
def insT_ren : Go.Shelf.Ren := ⟨fun | 20 => 144 | n => n, fun | 24 => 118 | 22 => 76 | 3 => 3 | 25 => 172 | 4 => 4 | 0 => 0 | n => n, fun | n => n⟩
theorem insT : Go.Proofs.SlLaysF0.n20 Tryz.prog insT_ren := {
  mixed := by kernel_rfl
  f20 := ⟨Tryz.f144.name, by decide, Tryz.func144.trans (congrArg some (by kernel_rfl))⟩
  t0 := Tryz.underlying0
  a0 := Tryz.isAgg0
  z0 := Tryz.sizeOf0
  v0 := Tryz.zeroValue0
  t3 := Tryz.underlying3
  a3 := Tryz.isAgg3
  z3 := Tryz.sizeOf3
  v3 := Tryz.zeroValue3
  t4 := Tryz.underlying4
  a4 := Tryz.isAgg4
  z4 := Tryz.sizeOf4
  v4 := Tryz.zeroValue4
  t22 := Tryz.underlying76
  a22 := Tryz.isAgg76
  z22 := Tryz.sizeOf76
  v22 := Tryz.zeroValue76
  t25 := Tryz.underlying172
  a25 := Tryz.isAgg172
  z25 := Tryz.sizeOf172
  v25 := Tryz.zeroValue172 }

theorem sortL_len {α : Type} [Inhabited α] (lt : α → α → Bool) (hS : Sort.SWO lt) (l : List α) : (sortL lt l).length = l.length := (sortL_perm lt hS l).length_eq

theorem insT_none (A : Option Addr) (cap : Nat) (fv : Value) (w : World) : Calls Tryz.prog 144 #[.slice A 0 cap, .int .i64 0, .int .i64 0, fv] w fun e w' => e = .returned (.tuple #[]) ∧ w = w' := by
  go_enter Tryz.func144, Tryz.ntmps144
  go_wp2
  refine wp_loop_rounds 1 ?_
  rw [rounds_succ]
  go_wp2
  go_end0
  exact ⟨rfl, rfl⟩

def SortPost (B : Nat) (W : World) (A : Option Addr) (l : List BTone) (e : Ending) (w' : World) : Prop := e = .returned (.tuple #[]) ∧ HoldsT BTone.cells 2 B w' A l ∧ Below B W w'

theorem insT_any (cf : BTone → BTone → Int) (g : Nat) (hS : Sort.SWO (ltOf cf)) (hl : ∀ blk off size w, CmpLays Tryz.prog g #[] BTone.cells 2 cf blk off size w) (eg : ∀ args w, (callFunc g args).run Tryz.prog w = .ok (.enter g args) w)
    (l : List BTone) (A : Option Addr) (cap B : Nat) (w : World) (hh : HoldsT BTone.cells 2 B w A l) (hlen : l.length ≤ 1000000) :
    Calls Tryz.prog 144 #[.slice A l.length cap, .int .i64 0, .int .i64 l.length, .func (.func g) #[] #[]] w (SortPost B w A (sortL (ltOf cf) l)) := by
  rcases hh with rfl | ⟨k, rfl, hBk, hk, hh⟩
  · refine (insT_none A cap _ w).mono ?_
    rintro e w' ⟨he, rfl⟩
    exact ⟨he, .inl (List.perm_nil.1 (sortL_perm _ hS [])), Below.refl _ _⟩
  · have h := AnyQ.insertionSortCmpFunc insT 2 (fun w => by kernel_rfl) (fun w => by kernel_rfl) BTone.cells bt_len bt_one cf g #[] k 0 cap 0 l.length l.toArray w eg (hl _ _ _ _) hh hk (Nat.zero_le _) (by simp) (by simp; omega)
    refine Calls.mono (show Calls Tryz.prog 144 #[.slice (some ⟨k, 0, none⟩) l.length cap, .int .i64 0, .int .i64 l.length, .func (.func g) #[] #[]] w _ from h) ?_
    rintro e w' ⟨he, n, os, rfl⟩
    refine ⟨he, ?_, sortWorld_below _ _ _ _ _ _ _ _ B hBk hk⟩
    have := holds_sorted (enc := BTone.cells) (k := 2) hBk hk hh (m := sortL (ltOf cf) l) (sortL_len _ hS l) n os
    exact this

set_option maxRecDepth 100000 in
set_option maxHeartbeats 1000000 in
theorem stableT_any (cf : BTone → BTone → Int) (g : Nat) (hS : Sort.SWO (ltOf cf)) (hl : ∀ blk off size w, CmpLays Tryz.prog g #[] BTone.cells 2 cf blk off size w) (eg : ∀ args w, (callFunc g args).run Tryz.prog w = .ok (.enter g args) w)
    (l : List BTone) (A : Option Addr) (cap B : Nat) (w : World) (hh : HoldsT BTone.cells 2 B w A l) (hlen : l.length ≤ 19) :
    Calls Tryz.prog 106 #[.slice A l.length cap, .func (.func g) #[] #[]] w (SortPost B w A (sortL (ltOf cf) l)) := by
  have HI := Lib.hid (insT_any cf g hS hl eg l A cap B w hh (by omega))
  generalize sortL (ltOf cf) l = L at *
  obtain ⟨n, hn⟩ : ∃ n, l.length = n := ⟨_, rfl⟩
  rw [hn] at HI hlen ⊢
  have t1 : ¬ ((20 : Int) ≤ (n : Int)) := by omega
  have t2 : ¬ ((20 : Int) < (n : Int)) := by omega
  have HS : Calls Tryz.prog 132 #[.slice A n cap, .int .i64 n, .func (.func g) #[] #[]] w (SortPost B w A L) := by
    clear hn hh eg hl hS
    go_enter Tryz.func132, Tryz.ntmps132
    go_wp2_with fail
    refine wp_loop_rounds 1 ?_
    rw [rounds_succ]
    go_wp2_with fail
    refine HI.out.mono ?_
    rintro e w' ⟨rfl, h1, h2⟩
    have H1 := Lib.hid h1
    have H2 := Lib.hid h2
    clear h1 h2
    go_wp2_with fail
    refine wp_loop_rounds 1 ?_
    rw [rounds_succ]
    go_wp2_with fail
    go_end0
    exact ⟨rfl, H1.out, H2.out⟩
  have HS := Lib.hid HS
  clear hn hh eg hl hS
  go_enter Tryz.func106, Tryz.ntmps106
  go_wp2_with fail
  refine HS.out.mono ?_
  rintro e w' ⟨rfl, h1, h2⟩
  go_wp2_with fail
  go_end0
  exact ⟨rfl, h1, h2⟩

set_option maxRecDepth 100000 in
set_option maxHeartbeats 1000000 in
theorem sortT_any (cf : BTone → BTone → Int) (g : Nat) (hS : Sort.SWO (ltOf cf)) (hl : ∀ blk off size w, CmpLays Tryz.prog g #[] BTone.cells 2 cf blk off size w) (eg : ∀ args w, (callFunc g args).run Tryz.prog w = .ok (.enter g args) w)
    (l : List BTone) (A : Option Addr) (cap B : Nat) (w : World) (hh : HoldsT BTone.cells 2 B w A l) (hlen : l.length ≤ 12) :
    Calls Tryz.prog 108 #[.slice A l.length cap, .func (.func g) #[] #[]] w (SortPost B w A (sortL (ltOf cf) l)) := by
  have HI := Lib.hid (insT_any cf g hS hl eg l A cap B w hh (by omega))
  generalize sortL (ltOf cf) l = L at *
  obtain ⟨n, hn⟩ : ∃ n, l.length = n := ⟨_, rfl⟩
  rw [hn] at HI hlen ⊢
  have t1 : (n : Int) ≤ 12 := by omega
  have HS : ∀ z : Int, Calls Tryz.prog 133 #[.slice A n cap, .int .i64 0, .int .i64 n, .int .i64 z, .func (.func g) #[] #[]] w (SortPost B w A L) := by
    intro z
    clear hn hh eg hl hS
    go_enter Tryz.func133, Tryz.ntmps133
    go_wp2_with fail
    refine wp_loop_rounds 1 ?_
    rw [rounds_succ]
    go_wp2_with fail
    refine HI.out.mono ?_
    rintro e w' ⟨rfl, h1, h2⟩
    go_wp2_with fail
    go_end0
    exact ⟨rfl, h1, h2⟩
  have HS := Lib.hid HS
  clear hn hh eg hl hS
  go_enter Tryz.func108, Tryz.ntmps108
  go_wp2_with fail
  refine (bits_Len _ _ (by omega) (by omega)).mono ?_
  rintro e w' ⟨rfl, rfl⟩
  generalize Lib.bitLen _ = z
  go_wp2_with fail
  refine (HS.out _).mono ?_
  rintro e w' ⟨rfl, h1, h2⟩
  go_wp2_with fail
  go_end0
  exact ⟨rfl, h1, h2⟩
end Go.Proofs.YtbgkoopfdfnmcaaGreat

namespace Go.Proofs.YtbgkoopfdfnmcaaGreat
open Go.RowKit

def toneAt (b : List Int) (k : Nat) : ToneV := ⟨k, bgt b k⟩
def tonesTo (b : List Int) (m : Nat) : List ToneV := ((List.range m).filter fun (k : Nat) => isTone b (k : Int)).map (toneAt b)
/-- a spectrum's tones: those of which there is at most one greater -/
def findT (b : List Int) : List ToneV := ((List.range 16).filter fun (k : Nat) => isTone b (k : Int) && decide (aheadZ b k ≤ 1)).map (toneAt b)
def precV (x y : ToneV) : Bool := decide (absZ y.val < absZ x.val) || (decide (absZ x.val = absZ y.val) && decide (x.idx < y.idx))
theorem tonesTo_succ (b : List Int) (m : Nat) : tonesTo b (m + 1) = tonesTo b m ++ if isTone b (m : Int) = true then [toneAt b m] else [] := by
  unfold tonesTo
  rw [List.range_succ, List.filter_append, List.map_append]
  congr 1
  cases h : isTone b (m : Int) <;> simp [h]
theorem tonesTo_len (b : List Int) (m : Nat) : (tonesTo b m).length ≤ m := by
  unfold tonesTo
  have := List.length_filter_le (fun k : Nat => isTone b (k : Int)) (List.range m)
  simpa using this
theorem range_inc (m : Nat) : (List.range m).Pairwise (· < ·) := List.pairwise_lt_range
theorem tonesTo_inc (b : List Int) (m : Nat) : (tonesTo b m).Pairwise fun x y => x.idx < y.idx := by
  unfold tonesTo
  rw [List.pairwise_map]
  refine ((range_inc m).filter _).imp fun {a c} h => ?_
  show (a : Int) < (c : Int)
  omega
theorem aheadZ_eq (b : List Int) (k : Nat) : ((tonesTo b 16).filter fun u => precV u (toneAt b k)).length = aheadZ b k := by
  unfold tonesTo aheadZ aheadTo
  rw [List.filter_map, List.length_map, List.filter_filter]
  congr 1
  refine List.filter_congr fun j _ => ?_
  unfold aheadB precV toneAt
  simp only [Function.comp]
  rw [Bool.and_comm]
  congr 2
  have : ((j : Int) < (k : Int)) ↔ j < k := by omega
  rw [decide_eq_decide.2 this]
theorem findT_eq (b : List Int) : (tonesTo b 16).filter (fun t => decide (((tonesTo b 16).filter fun u => precV u t).length ≤ 1)) = findT b := by
  unfold findT
  conv => lhs; arg 2; unfold tonesTo
  rw [List.filter_map, List.filter_filter]
  congr 1
  refine List.filter_congr fun k _ => ?_
  simp only [Function.comp]
  rw [aheadZ_eq, Bool.and_comm]
theorem findT_len (b : List Int) : (findT b).length ≤ 16 := by
  unfold findT
  have := List.length_filter_le (fun k : Nat => isTone b (k : Int) && decide (aheadZ b k ≤ 1)) (List.range 16)
  simpa using this

/-! The sorts' orders. -/
def precB (x y : BTone) : Bool := precV x.t y.t
theorem ltLoud (x y : BTone) : ltOf cmpLoud x y = decide (absZ y.t.val < absZ x.t.val) := by
  unfold ltOf cmpLoud clampZ
  rw [decide_eq_decide]
  split
  · omega
  · split <;> omega
theorem ltIdx (x y : BTone) : ltOf cmpIdx x y = decide (x.t.idx < y.t.idx) := by
  unfold ltOf cmpIdx
  rw [decide_eq_decide]; omega
theorem swo_loud : Sort.SWO (ltOf cmpLoud) := ⟨fun x => by rw [ltLoud]; simp, fun x y z => by rw [ltLoud, ltLoud, ltLoud]; simp; omega, fun x y z => by rw [ltLoud, ltLoud, ltLoud]; simp; omega⟩
theorem swo_idx : Sort.SWO (ltOf cmpIdx) := ⟨fun x => by rw [ltIdx]; simp, fun x y z => by rw [ltIdx, ltIdx, ltIdx]; simp; omega, fun x y z => by rw [ltIdx, ltIdx, ltIdx]; simp; omega⟩
theorem swo_prec : Sort.SWO precB := ⟨fun x => by unfold precB precV; simp, fun x y z => by unfold precB precV; simp; omega, fun x y z => by unfold precB precV; simp; omega⟩
theorem prec_irr (x : BTone) : precB x x = false := swo_prec.irrefl x
theorem prec_asy (x y : BTone) (h : precB x y = true) : precB y x = false := by
  unfold precB precV at *; simp at *; omega

theorem sorted_twice (b : List Int) (ts : List BTone) (h : ts.map BTone.t = tonesTo b 16) :
    (sortL (ltOf cmpIdx) ((sortL (ltOf cmpLoud) ts).take 2)).map BTone.t = findT b := by
  have hinc : ts.Pairwise fun x y => x.t.idx < y.t.idx := by
    have := tonesTo_inc b 16
    rw [← h, List.pairwise_map] at this
    exact this
  have e1 : sortL (ltOf cmpLoud) ts = sortL precB ts := sortL_stable _ _ (fun x => x.t.idx) (fun x y hxy => by
    rw [ltLoud]; unfold precB precV
    have : ¬ x.t.idx < y.t.idx := by omega
    simp [this]) ts hinc
  rw [e1]
  have hperm := sortL_perm precB swo_prec ts
  generalize hS : sortL precB ts = S at *
  have hsort := sortL_sorted precB swo_prec ts
  rw [hS] at hsort
  have hne : S.Pairwise fun x y => x.t.idx ≠ y.t.idx := by
    refine (hperm.pairwise_iff (fun {x y} h => Ne.symm h)).2 (hinc.imp fun {x y} h => ?_)
    omega
  have hprec : S.Pairwise fun x y => precB x y = true := by
    refine (hsort.and hne).imp fun {x y} ⟨h1, h2⟩ => ?_
    unfold precB precV at *
    simp at *
    omega
  have htake := first_two precB prec_irr prec_asy S hprec
  rw [← htake]
  have hrank : ∀ t, (S.filter fun u => precB u t).length = (ts.filter fun u => precB u t).length := fun t => (hperm.filter _).length_eq
  have e2 : (S.filter fun t => decide ((S.filter fun u => precB u t).length ≤ 1)) = S.filter fun t => decide ((ts.filter fun u => precB u t).length ≤ 1) := by
    refine List.filter_congr fun t _ => ?_
    rw [hrank]
  rw [e2]
  have hp2 := hperm.filter (fun t => decide ((ts.filter fun u => precB u t).length ≤ 1))
  generalize hT : S.filter (fun t => decide ((ts.filter fun u => precB u t).length ≤ 1)) = T at *
  have hp3 := (sortL_perm (ltOf cmpIdx) swo_idx T).trans hp2
  have hs3 := sortL_sorted (ltOf cmpIdx) swo_idx T
  have hinc2 := hinc.filter (fun t => decide ((ts.filter fun u => precB u t).length ≤ 1))
  have hne3 : (sortL (ltOf cmpIdx) T).Pairwise fun x y => x.t.idx ≠ y.t.idx := by
    refine (hp3.pairwise_iff (fun {x y} h => Ne.symm h)).2 (hinc2.imp fun {x y} h => ?_)
    omega
  have hfin := ordered_unique (fun x y : BTone => x.t.idx < y.t.idx) (fun x => by omega) (fun x y h => by omega) _ _ hp3 ((hs3.and hne3).imp fun {x y} ⟨h1, h2⟩ => by
    rw [ltIdx] at h1; simp at h1; omega) hinc2
  rw [hfin, ← findT_eq, ← h, List.filter_map]
  congr 1
  refine List.filter_congr fun t _ => ?_
  simp only [Function.comp]
  rw [List.filter_map, List.length_map]
  rfl
end Go.Proofs.YtbgkoopfdfnmcaaGreat

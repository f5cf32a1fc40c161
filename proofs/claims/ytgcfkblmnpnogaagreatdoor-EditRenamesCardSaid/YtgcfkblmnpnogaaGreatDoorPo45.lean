/- ParI, ParJ, ParK, ParL, ParM, ParN, ParO, ParQ2, ParR, ParT, LayA, LayB, LayC, LayP, LayQ, LayE, BldA, BldC, BldD, BldE, BldB, BackF, EdA, EdB, EdC. Conditions: as each theorem states. -/
import Derived.Test.YtgcfkblmnpnogaaGreatDoorPo04
import Derived.Test.YtgcfkblmnpnogaaGreatDoorPo38
import Derived.Test.YtgcfkblmnpnogaaGreatDoorPo30
import Derived.Test.YtgcfkblmnpnogaaGreatDoorPo44
import Derived.Test.YtgcfkblmnpnogaaGreatDoorPo40
import Derived.Test.YtgcfkblmnpnogaaGreatDoorPo35
import Derived.Test.YtgcfkblmnpnogaaGreatDoorPo32
namespace Go.Proofs.YtgcfkblmnpnogaaGreatDoor
open Go.RowKit Go.Lib
def zeroM : MetaV := ⟨⟨#[]⟩, 0, 0, 0, false, 0, 0, 0, 0⟩
def NoBank (w : World) (v : Value) : Prop := v = .pointer none ∨ ∃ g, v = .pointer (some ⟨g, 0, none⟩) ∧ Blk w g 130 [.slice none 0 0, .int .i64 0, .slice none 0 0]
theorem NoBank.later {w w' : World} {v : Value} (h : NoBank w v) (hb : Below w.heap.size w w') : NoBank w' v := by
 rcases h with h | ⟨g, h1, h2⟩
 ·exact .inl h
 ·exact .inr ⟨g, h1, h2.below hb h2.lt⟩
theorem none_at {w : World} {g size : Nat} {bs : List Nat} {D : List MetaV} (h : BankAt w g bs size D) (hs : 0 < size) : Calls Tryz.prog 84 #[.pointer (some ⟨g, 0, none⟩)] w fun e w' => e = .returned (.bool false) ∧ w = w' := by
 obtain ⟨Ai, ci, Ad, cd, h1, _⟩ := h.at_
 have c1 := blk_cells (show Blk w g 130 [.slice Ai bs.length ci, .int .i64 size, .slice Ad D.length cd] from h1) 1
 have t1 : ((size : Int) == 0) = false := beq_eq_false_iff_ne.2 (by omega)
 clear h1 h
 go_enter Tryz.func84, Tryz.ntmps84
 go_wp2
 go_ret
 exact ⟨rfl, rfl⟩
def metaI (D : List MetaV) (i : Int) : MetaV := if i < 0 ∨ (D.length : Int) ≤ i then zeroM else D.getD i.toNat zeroM
def metaE (D : List MetaV) (i : Int) : Int := if i < 0 ∨ (D.length : Int) ≤ i then 7 else 0
set_option maxRecDepth 100000 in
set_option maxHeartbeats 4000000 in
theorem BMeta_any (g size : Nat) (bs : List Nat) (D : List MetaV) (i : Int) (w : World) (h : BankAt w g bs size D) (hs : 0 < size) (_ : D.length ≤ 1000000) :
  Calls Tryz.prog 36 #[.pointer (some ⟨g, 0, none⟩), .int .i64 i] w fun e w' => e = .returned (.tuple #[.agg (metaI D i).cells.toArray, .int .i64 (metaE D i)]) ∧ Below w.heap.size w w' := by
 have HMf := hid (show (Tryz.prog.info? 27).map (·.size) = some 9 by kernel_rfl)
 obtain ⟨w1, hw1⟩ : ∃ w1, w.alloc (.cells #[.string ⟨#[]⟩, .int .i64 0, .int .i64 0, .int .i64 0, .bool false, .int .i64 0, .int .i64 0, .int .i64 0, .int .i64 0] 27) = w1 := ⟨_, rfl⟩
 have B1 := hid (show Below w.heap.size w w1 by rw [← hw1]; exact bnew w _)
 have L1 := hid (show w1.heap[w.heap.size]? = some (.cells #[.string ⟨#[]⟩, .int .i64 0, .int .i64 0, .int .i64 0, .bool false, .int .i64 0, .int .i64 0, .int .i64 0, .int .i64 0] 27 (0, 0)) by rw [← hw1]; exact heap_alloc_new w _)
 have HNo := hid (none_at (h.later B1.out) hs)
 have hB1 := h.later B1.out
 obtain ⟨Ai, ci, Ad, cd, h1, _, h3, _⟩ := hB1.at_
 have c2 := blk_cells (show Blk w1 g 130 [.slice Ai bs.length ci, .int .i64 size, .slice Ad D.length cd] from h1) 2
 have h3 := hid h3
 by_cases hi : i < 0 ∨ (D.length : Int) ≤ i
 ·have HO1 := hid (meta_all zeroM)
  have HI := hid (show metaI D i = zeroM from if_pos hi)
  have HE := hid (show metaE D i = 7 from if_pos hi)
  obtain ⟨n, hn⟩ : ∃ n, D.length = n := ⟨_, rfl⟩
  rw [hn] at hi c2
  clear h1 hB1 h hn
  rcases Int.lt_or_le i 0 with q | q
  ·clear hi
   go_enter Tryz.func36, Tryz.ntmps36
   go_wp2_with (first | (go_at_call 84; refine HNo.out.mono ?_; rintro e w2 ⟨rfl, rfl⟩) | (refine wpList_store_row_w rfl 27 (.tmp 4) (.tmp 22) rfl w.heap.size rfl _ _ #[.string ⟨#[]⟩, .int .i64 0, .int .i64 0, .int .i64 0, .bool false, .int .i64 0, .int .i64 0, .int .i64 0, .int .i64 0] rfl L1.out HMf.out rfl HO1.out ?_))
   refine bodyPost_ret (v := .tuple #[.agg #[.string ⟨#[]⟩, .int .i64 0, .int .i64 0, .int .i64 0, .bool false, .int .i64 0, .int .i64 0, .int .i64 0, .int .i64 0], .int .i64 7]) (results_cell_tmp Tryz.results36 _ _ w.heap.size 27 _ (0, 0) _ _ rfl rfl (setRow_at w1 _ _ _ _ L1.out) Tryz.underlying27 rfl HMf.out) rfl ?_
   exact ⟨by rw [HI.out, HE.out]; rfl, below_setRow B1.out (Nat.le_refl _) _⟩
  ·have q0 : ¬ i < 0 := by omega
   have q1 : (n : Int) ≤ i := by omega
   clear hi q
   go_enter Tryz.func36, Tryz.ntmps36
   go_wp2_with (first | (go_at_call 84; refine HNo.out.mono ?_; rintro e w2 ⟨rfl, rfl⟩) | (refine wpList_store_row_w rfl 27 (.tmp 4) (.tmp 22) rfl w.heap.size rfl _ _ #[.string ⟨#[]⟩, .int .i64 0, .int .i64 0, .int .i64 0, .bool false, .int .i64 0, .int .i64 0, .int .i64 0, .int .i64 0] rfl L1.out HMf.out rfl HO1.out ?_))
   refine bodyPost_ret (v := .tuple #[.agg #[.string ⟨#[]⟩, .int .i64 0, .int .i64 0, .int .i64 0, .bool false, .int .i64 0, .int .i64 0, .int .i64 0, .int .i64 0], .int .i64 7]) (results_cell_tmp Tryz.results36 _ _ w.heap.size 27 _ (0, 0) _ _ rfl rfl (setRow_at w1 _ _ _ _ L1.out) Tryz.underlying27 rfl HMf.out) rfl ?_
   exact ⟨by rw [HI.out, HE.out]; rfl, below_setRow B1.out (Nat.le_refl _) _⟩
 ·obtain ⟨m, rfl⟩ := Int.eq_ofNat_of_zero_le (show 0 ≤ i by omega)
  have hm : m < D.length := by omega
  obtain ⟨x, hx⟩ : ∃ x, D[m]? = some x := ⟨_, List.getElem?_eq_getElem hm⟩
  have HI := hid (show metaI D m = x by
   unfold metaI
   rw [if_neg hi, Int.toNat_natCast, List.getD_eq_getElem?_getD, hx]; rfl)
  have HE := hid (show metaE D m = 0 from if_neg hi)
  have HO1 := hid (meta_all x)
  obtain ⟨b, o, rfl, hb, hc⟩ := meta_at h3.out hx
  have HX := hid hc
  have HFl := hid (show (Tryz.prog.info? 27).map (·.size) = some x.cells.length from HMf.out)
  have HFs := hid (show (Tryz.prog.info? 27).map (·.size) = some x.cells.toArray.size from HMf.out)
  have HSz := hid (show (9 : Nat) = x.cells.toArray.size from rfl)
  obtain ⟨mc, hmc⟩ : ∃ mc, x.cells = mc := ⟨_, rfl⟩
  have HMc := hid hmc
  rw [hmc] at HFl HFs HSz HX HO1
  obtain ⟨n, hn⟩ : ∃ n, D.length = n := ⟨_, rfl⟩
  rw [hn] at hm c2
  have q0 : ¬ (m : Int) < 0 := by omega
  have q1 : ¬ (n : Int) ≤ (m : Int) := by omega
  have q2 : (m : Int) < (n : Int) := by omega
  have q3 : (0 : Int) ≤ (m : Int) := by omega
  clear h1 hB1 h hn hi hx hc hmc
  go_enter Tryz.func36, Tryz.ntmps36
  go_wp2_with (first | (go_at_call 84; refine HNo.out.mono ?_; rintro e w2 ⟨rfl, rfl⟩) | (refine wpList_load_part_w rfl 27 (.tmp 28) rfl b (o + m * 9) rfl mc _ HX.out Tryz.underlying27 rfl HFl.out ?_) | (refine wpList_store_row_w rfl 27 (.tmp 4) (.tmp 29) rfl w.heap.size rfl _ _ mc.toArray rfl L1.out HFs.out HSz.out HO1.out ?_))
  refine bodyPost_ret (v := .tuple #[.agg mc.toArray, .int .i64 0]) (results_cell_tmp Tryz.results36 _ _ w.heap.size 27 _ (0, 0) _ _ rfl rfl (setRow_at w1 _ _ _ _ L1.out) Tryz.underlying27 rfl HFs.out) rfl ?_
  exact ⟨by rw [HI.out, HE.out, HMc.out], below_setRow B1.out (Nat.le_refl _) _⟩
end Go.Proofs.YtgcfkblmnpnogaaGreatDoor
namespace Go.Proofs.YtgcfkblmnpnogaaGreatDoor
open Go.RowKit Go.Lib
def Byt (l : List Nat) : Prop := ∀ x ∈ l, x < 256
theorem packN_byt {L : List Nat} (h : Bin L) : Byt (packN L) := fun x hx => by
 unfold packN at hx
 obtain ⟨j, _, rfl⟩ := List.mem_map.1 hx
 exact byteAt_lt h j
theorem frameBytes_byt (f : FrameV) (size : Nat) : Byt (frameBytes f size) := fun x hx => by
 unfold frameBytes at hx
 rcases List.mem_append.1 hx with h | h
 ·exact packN_byt (frameB_bin f) x h
 ·obtain ⟨_, rfl⟩ := List.mem_replicate.1 h; omega
theorem numB_byt (size v : Nat) : Byt (numB size v) := fun x hx => by
 unfold numB at hx
 obtain ⟨j, _, rfl⟩ := List.mem_map.1 hx
 exact Nat.mod_lt _ (by decide)
theorem nameB_byt (s : ByteArray) : Byt (nameB s) := fun x hx => by
 unfold nameB at hx
 obtain ⟨j, _, rfl⟩ := List.mem_map.1 hx
 exact j.toNat_lt
theorem putAt_byt {bs xs : List Nat} {o : Nat} (h : Byt bs) (hx : Byt xs) : Byt (putAt bs o xs) := fun x hm => by
 unfold putAt at hm
 rcases List.mem_append.1 hm with h1 | h1
 ·rcases List.mem_append.1 h1 with h2 | h2
  ·exact h x (List.mem_of_mem_take h2)
  ·exact hx x h2
 ·exact h x (List.mem_of_mem_drop h1)
def BytW (l : List (Nat × List Nat)) : Prop := ∀ p ∈ l, Byt p.2
theorem lays_byt : ∀ {l : List (Nat × List Nat)} {bs : List Nat}, Byt bs → BytW l → Byt (lays bs l)
 | [], _, h, _ => h
 | p :: r, bs, h, hl => lays_byt (l := r) (putAt_byt h (hl p (by simp))) (fun q hq => hl q (by simp [hq]))
theorem chanW_byt {first sums size ch k : Nat} {fs : List FrameV} : ∀ i, BytW (chanW first sums size ch k fs i)
 | 0 => fun p hp => by simp [chanW] at hp
 | i + 1 => fun p hp => by
  unfold chanW at hp
  rcases List.mem_append.1 hp with h | h
  ·exact chanW_byt i p h
  ·cases hx : fs[i]? with
   | none => rw [hx] at h; simp at h
   | some x =>
    rw [hx] at h
    simp only [frameW, List.mem_cons, List.not_mem_nil, or_false] at h
    rcases h with rfl | rfl
    ·exact frameBytes_byt _ _
    ·exact numB_byt _ _
theorem layTo_byt {first sums size : Nat} {rows : List (List Int)} : ∀ k, BytW (layTo first sums size rows k)
 | 0 => fun p hp => by simp [layTo] at hp
 | k + 1 => fun p hp => by
  unfold layTo at hp
  rcases List.mem_append.1 hp with h | h
  ·exact layTo_byt k p h
  ·cases hx : rows[k]? with
   | none => rw [hx] at h; simp at h
   | some d => rw [hx] at h; exact chanW_byt _ p h
theorem packTo_byt {size : Nat} {SS : List SampV} {PM : List MetaV} : ∀ m, BytW (packTo size SS PM m)
 | 0 => fun p hp => by simp [packTo] at hp
 | m + 1 => fun p hp => by
  unfold packTo at hp
  rcases List.mem_append.1 hp with h | h
  ·exact packTo_byt m p h
  ·cases hs : SS[m]? with
   | none => rw [hs] at h; simp at h
   | some s =>
    cases hx : PM[m]? with
    | none => rw [hs, hx] at h; simp at h
    | some x => rw [hs, hx] at h; exact layTo_byt _ p h
theorem entryW_byt {o : Nat} {x : MetaV} (h : x.channels ≤ 255) : BytW (entryW o x) := fun p hp => by
 have hc : Byt [x.channels.toNat] := fun y hy => by rw [List.mem_singleton] at hy; omega
 have h1 : Byt [1] := fun y hy => by rw [List.mem_singleton] at hy; omega
 unfold entryW at hp
 split at hp
 ·simp only [List.mem_append, List.mem_cons, List.not_mem_nil, or_false] at hp
  rcases hp with (rfl | rfl | rfl | rfl | rfl | rfl | rfl | rfl) | rfl
  all_goals first | exact nameB_byt _ | exact numB_byt _ _ | exact hc | exact h1
 ·simp only [List.mem_append, List.mem_cons, List.not_mem_nil, or_false] at hp
  rcases hp with rfl | rfl | rfl | rfl | rfl | rfl | rfl | rfl
  all_goals first | exact nameB_byt _ | exact numB_byt _ _ | exact hc | exact h1
theorem entsTo_byt {L : List MetaV} (hL : ∀ x ∈ L, x.channels ≤ 255) : ∀ m, BytW (entsTo L m)
 | 0 => fun p hp => by simp [entsTo] at hp
 | m + 1 => fun p hp => by
  unfold entsTo at hp
  rcases List.mem_append.1 hp with h | h
  ·exact entsTo_byt hL m p h
  ·cases hx : L[m]? with
   | none => rw [hx] at h; simp at h
   | some x => rw [hx] at h; exact entryW_byt (hL x (List.mem_of_getElem? hx)) p h
theorem withHead_byt {bs : List Nat} {L : List MetaV} {size : Nat} (hb : Byt bs) (hL : ∀ x ∈ L, x.channels ≤ 255) (hs : size ≤ 255) : Byt (withHead bs L size) := by
 unfold withHead
 refine putAt_byt (lays_byt hb fun p hp => ?_) (numB_byt _ _)
 rcases List.mem_append.1 hp with h | h
 ·unfold headW at h
  simp only [List.mem_cons, List.not_mem_nil, or_false] at h
  rcases h with rfl | rfl | rfl | rfl
  ·intro y hy; simp at hy; omega
  ·exact numB_byt _ _
  ·exact numB_byt _ _
  ·intro y hy; rw [List.mem_singleton] at hy; omega
 ·exact entsTo_byt hL _ p h
theorem packZ_byt {size : Nat} {SS : List SampV} (h : CanP size SS) : Byt (packZ size SS) := by
 rw [packZ_eq]
 refine withHead_byt (lays_byt (fun x hx => by obtain ⟨_, rfl⟩ := List.mem_replicate.1 hx; omega) (packTo_byt _)) (fun x hx => (h.goodE x hx).1.ch.2) (by have := h.hi; omega)
theorem bytes_at_row {w : World} {g : Nat} {bs : List Nat} (h : BytesAt w g bs) : Row w w.heap.size (some ⟨g, 0, none⟩) (u8s bs) := fun i v hv => by
 refine ⟨g, 0, rfl, h.lt, ?_⟩
 have := blk_cells h i
 rw [Nat.zero_add, this]
 exact hv
theorem Parse_packed {size : Nat} {SS : List SampV} (h : CanP size SS) (g : Nat) (w : World) (hb : BytesAt w g (packZ size SS)) :
  Calls Tryz.prog 19 #[.slice (some ⟨g, 0, none⟩) (packLen size SS) (packLen size SS)] w fun e w' => ∃ x, e = .returned (.tuple #[.pointer (some ⟨x, 0, none⟩), .int .i64 0]) ∧ w.heap.size ≤ x ∧ BankAt w' x (packZ size SS) size (packDir size SS) ∧ Below w.heap.size w w' := by
 have hl := h.len_bd
 refine (Parse_any (packZ size SS) (some ⟨g, 0, none⟩) (packLen size SS) (packLen size SS) w (packZ_len h) (Nat.le_refl _) (by omega) (by omega) (fun h => by cases h) (bytes_at_row hb) (packZ_byt h)).mono ?_
 rintro e w' (⟨h1, _⟩ | ⟨_, x, he, hx, hB, hbel⟩)
 ·exact absurd (packZ_parse h) h1
 ·rw [packZ_size h, packZ_cnt h, packZ_dir h] at hB
  exact ⟨x, he, hx, hB, hbel⟩
end Go.Proofs.YtgcfkblmnpnogaaGreatDoor
namespace Go.Proofs.YtgcfkblmnpnogaaGreatDoor
open Go.RowKit Go.Lib
end Go.Proofs.YtgcfkblmnpnogaaGreatDoor
namespace Go.Proofs.YtgcfkblmnpnogaaGreatDoor
open Go.RowKit Go.Lib
theorem results_t3 {P : Program} {fn : Func} {p q r : Tmp} (h : fn.results = #[.tmp p, .tmp q, .tmp r]) (tmps : Array Value) (w : World) : (results fn tmps).run P w = .ok (.tuple #[tmps.getD p undef, tmps.getD q undef, tmps.getD r undef]) w := by
 simp [results, h]
end Go.Proofs.YtgcfkblmnpnogaaGreatDoor
namespace Go.Proofs.YtgcfkblmnpnogaaGreatDoor
open Go.RowKit Go.Lib
structure FitB (bs : List Nat) (size : Nat) (D : List MetaV) : Prop where
 lo : 24 ≤ size
 hi : size ≤ 96
 many : D.length ≤ 64
 long : bs.length ≤ 4000000
 byt : Byt bs
 right : ∀ x ∈ D, x.right = true
 lie : ∀ x ∈ D, 0 ≤ x.sums ∧ x.sums + 4 * framesN x ≤ x.first ∧ x.first + size * framesN x ≤ bs.length
theorem upZ16_ge (n : Int) : n ≤ upZ n 16 := by unfold upZ; omega
theorem upZ64_ge (n : Int) : n ≤ upZ n 64 := by unfold upZ; omega
theorem genTo_step {size : Int} {L : List MetaV} (h1 : 24 ≤ size) (hL : ∀ x ∈ L, GenM x) (m : Nat) : atTo size L m ≤ atTo size L (m + 1) := by
 cases hx : L[m]? with
 | none =>
  have e : atTo size L (m + 1) = atTo size L m := by
   show (match L[m]? with | some x => _ | none => _) = _
   rw [hx]
  rw [e]; exact Int.le_refl _
 | some x =>
  rw [atTo_succ hx]
  have hF := (hL x (List.mem_of_getElem? hx)).fr
  have h3 : 0 ≤ size * framesN x := Int.mul_nonneg (by omega) hF.1
  have h4 := upZ16_ge (atTo size L m + 4 * framesN x)
  omega
theorem genTo_mono {size : Int} {L : List MetaV} (h1 : 24 ≤ size) (hL : ∀ x ∈ L, GenM x) {m n : Nat} (h : m ≤ n) : atTo size L m ≤ atTo size L n := by
 induction n with
 | zero =>
  have : m = 0 := by omega
  subst this; exact Int.le_refl _
 | succ n ih =>
  by_cases hm : m = n + 1
  ·subst hm; exact Int.le_refl _
  ·exact Int.le_trans (ih (by omega)) (genTo_step h1 hL n)
theorem fit_parsed {bs : List Nat} (h : parseZ bs = 0) (hl : bs.length ≤ 4000000) (hb : Byt bs) : FitB bs (sizeZ bs) (dirZ bs (cntZ bs)) := by
 unfold parseZ at h
 split at h
 ·cases h
 split at h
 ·cases h
 split at h
 ·cases h
 rename_i hsz
 split at h
 ·cases h
 split at h
 ·cases h
 split at h
 ·cases h
 rename_i hdir
 split at h
 ·cases h
 rename_i hpl
 have hdir : dirTo bs (cntZ bs) = true := by simpa using hdir
 have hright := dirTo_right _ hdir
 unfold sizeBad at hsz
 simp only [Bool.or_eq_true, decide_eq_true_eq, not_or] at hsz
 obtain ⟨h1, h2, h3, h4⟩ := hsz
 unfold placeBad at hpl
 simp only [Bool.or_eq_true, decide_eq_true_eq, Bool.not_eq_true', not_or, Bool.not_eq_false, Decidable.not_not] at hpl
 obtain ⟨h5, h6, h7⟩ := hpl
 have h7 := allEq_eq h7
 have hgen : ∀ x ∈ dirZ bs (cntZ bs), GenM x := fun x hx => genM_right (hright x hx)
 refine ⟨by omega, by omega, by rw [dirZ_len]; omega, hl, hb, hright, fun x hx => ?_⟩
 obtain ⟨m, hm, rfl⟩ := List.mem_iff_getElem.1 hx
 have hm' : m < cntZ bs := by rw [dirZ_len] at hm; exact hm
 have hx0 : (dirZ bs (cntZ bs))[m]? = some (dirZ bs (cntZ bs))[m] := List.getElem?_eq_getElem hm
 have hg := mixTo_get (size := (sizeZ bs : Int)) hx0 (cntZ bs)
 rw [if_pos hm', h7, hx0] at hg
 injection hg with hg
 have hF := (hgen _ hx).fr
 have hbd := genTo_bd (size := (sizeZ bs : Int)) (by omega) (by omega) hgen (by rw [dirZ_len]; omega) m
 have hmo := genTo_mono (size := (sizeZ bs : Int)) (by omega) hgen (show m + 1 ≤ cntZ bs by omega)
 rw [atTo_succ hx0] at hmo
 have hu := upZ64_ge (atTo (sizeZ bs) (dirZ bs (cntZ bs)) (cntZ bs))
 have hge := upZ16_ge (atTo (sizeZ bs) (dirZ bs (cntZ bs)) m + 4 * framesN (dirZ bs (cntZ bs))[m])
 have hs : ((dirZ bs (cntZ bs))[m]).sums = atTo (sizeZ bs) (dirZ bs (cntZ bs)) m := by
  have := congrArg MetaV.sums hg; exact this
 have hf : ((dirZ bs (cntZ bs))[m]).first = upZ (atTo (sizeZ bs) (dirZ bs (cntZ bs)) m + 4 * framesN (dirZ bs (cntZ bs))[m]) 16 := by
  have := congrArg MetaV.first hg; exact this
 rw [hs, hf]
 omega
/-! The methods. -/
theorem BSize_any {w : World} {g size : Nat} {bs : List Nat} {D : List MetaV} (h : BankAt w g bs size D) (hs : 0 < size) : Calls Tryz.prog 51 #[.pointer (some ⟨g, 0, none⟩)] w fun e w' => e = .returned (.int .i64 size) ∧ w = w' := by
 have HN := Lib.hid (none_at h hs)
 obtain ⟨Ai, ci, Ad, cd, h1, _⟩ := h.at_
 have c1 := blk_cells (show Blk w g 130 [.slice Ai bs.length ci, .int .i64 size, .slice Ad D.length cd] from h1) 1
 clear h1 h
 go_enter Tryz.func51, Tryz.ntmps51
 go_wp2_with (go_at_call 84; refine HN.out.mono ?_; rintro e w2 ⟨rfl, rfl⟩)
 go_ret
 exact ⟨rfl, rfl⟩
theorem BDir_any {w : World} {g size : Nat} {bs : List Nat} {D : List MetaV} (h : BankAt w g bs size D) (hs : 0 < size) (hD : D.length ≤ 64) : Calls Tryz.prog 24 #[.pointer (some ⟨g, 0, none⟩)] w (CopyP w 27 9 D.length (metaCells D)) := by
 have HN := Lib.hid (none_at h hs)
 obtain ⟨Ai, ci, Ad, cd, h1, _, h3, _, _, _, _, _, h9⟩ := h.at_
 have c2 := blk_cells (show Blk w g 130 [.slice Ai bs.length ci, .int .i64 size, .slice Ad D.length cd] from h1) 2
 have HC := Lib.hid (cloneM_any D Ad D.length cd w rfl (by omega) h9 h3)
 generalize D.length = n at *
 clear h1 h h3 h9
 go_enter Tryz.func24, Tryz.ntmps24
 go_wp2_with (first | (go_at_call 84; refine HN.out.mono ?_; rintro e w2 ⟨rfl, rfl⟩) | (go_at_call 77; fail))
 refine HC.out.mono ?_
 rintro e w2 ⟨A, c, rfl, h⟩
 go_wp2
 go_ret
 exact ⟨A, c, rfl, h⟩
end Go.Proofs.YtgcfkblmnpnogaaGreatDoor
namespace Go.Proofs.YtgcfkblmnpnogaaGreatDoor
open Go.RowKit Go.Lib
def whereE (D : List MetaV) (i c b : Int) : Int := if metaE D i ≠ 0 then 7 else if c < 0 ∨ (metaI D i).channels ≤ c ∨ b < 0 ∨ countZ (metaI D i).length ≤ b then 5 else 0
def frameNo (D : List MetaV) (i c b : Int) : Int := b * (metaI D i).channels + c
def whereAt (D : List MetaV) (size : Nat) (i c b : Int) : Int := if whereE D i c b = 0 then (metaI D i).first + frameNo D i c b * size else 0
def whereSum (D : List MetaV) (bs : List Nat) (i c b : Int) : Nat := if whereE D i c b = 0 then readTo bs ((metaI D i).sums + 4 * frameNo D i c b).toNat 4 else 0
theorem metaI_mem {D : List MetaV} {i : Int} (h : metaE D i = 0) : metaI D i ∈ D := by
 unfold metaE at h
 split at h
 ·cases h
 ·rename_i hi
  unfold metaI
  rw [if_neg hi]
  have hm : i.toNat < D.length := by omega
  rw [List.getD_eq_getElem?_getD, List.getElem?_eq_getElem hm]
  exact List.getElem_mem hm
theorem metaE_two (D : List MetaV) (i : Int) : metaE D i = 0 ∨ metaE D i = 7 := by unfold metaE; split <;> simp
theorem where_lies {bs : List Nat} {size : Nat} {D : List MetaV} (h : FitB bs size D) {i c b : Int} (hE : whereE D i c b = 0) :
  ∃ x ∈ D, metaI D i = x ∧ ∃ (ch cn bn S F q P : Nat), x.channels = ch ∧ c = cn ∧ b = bn ∧ x.sums = S ∧ x.first = F ∧ (bn : Int) * (ch : Int) = ((bn * ch : Nat) : Int) ∧ bn * ch + cn = q ∧ q * size = P ∧ (q : Int) * (size : Int) = (P : Int) ∧ S + 4 * q + 4 ≤ F ∧ F + P + size ≤ bs.length ∧ (0 ≤ c ∧ c < x.channels) ∧ 0 ≤ b ∧ b < countZ x.length ∧ bn * ch ≤ 1000000 := by
 unfold whereE at hE
 split at hE
 ·cases hE
 split at hE
 ·cases hE
 rename_i h1 h2
 have h1 : metaE D i = 0 := by simpa using h1
 have hx := metaI_mem h1
 obtain ⟨x, hxe⟩ : ∃ x, metaI D i = x := ⟨_, rfl⟩
 rw [hxe] at h2 hx
 obtain ⟨r1, r2, r3, r4, r5⟩ := right_bds (h.right x hx)
 obtain ⟨l1, l2, l3⟩ := h.lie x hx
 obtain ⟨ch, hch⟩ := Int.eq_ofNat_of_zero_le (show 0 ≤ x.channels by omega)
 obtain ⟨cn, hcn⟩ := Int.eq_ofNat_of_zero_le (show 0 ≤ c by omega)
 obtain ⟨bn, hbn⟩ := Int.eq_ofNat_of_zero_le (show 0 ≤ b by omega)
 obtain ⟨S, hS⟩ := Int.eq_ofNat_of_zero_le (show 0 ≤ x.sums by omega)
 have hF0 : 0 ≤ framesN x := by
  have := (genM_right (h.right x hx)).fr
  omega
 obtain ⟨F, hF⟩ := Int.eq_ofNat_of_zero_le (show 0 ≤ x.first by omega)
 have hcz : 0 ≤ countZ x.length ∧ countZ x.length ≤ 65536 := by unfold countZ; split <;> omega
 obtain ⟨cz, hczn⟩ := Int.eq_ofNat_of_zero_le hcz.1
 have hfr : framesN x = ((cz * ch : Nat) : Int) := by
  unfold framesN
  rw [hczn, hch]
  push_cast; rfl
 have hq : bn * ch + cn + 1 ≤ cz * ch := by
  have := Nat.mul_le_mul_right ch (show bn + 1 ≤ cz by omega)
  rw [Nat.succ_mul] at this
  omega
 have hP : (bn * ch + cn) * size + size ≤ size * (cz * ch) := by
  have := Nat.mul_le_mul_right size hq
  rw [Nat.succ_mul, Nat.mul_comm (cz * ch) size] at this
  exact this
 have e1 : (size : Int) * ((cz * ch : Nat) : Int) = ((size * (cz * ch) : Nat) : Int) := by push_cast; rfl
 rw [hfr, hS, hF] at l2
 rw [hfr, hF, e1] at l3
 have hbc : bn * ch ≤ 1000000 := by
  have hc2 : ch ≤ 2 := by omega
  have := Nat.mul_le_mul (show bn ≤ 65536 by omega) hc2
  omega
 refine ⟨x, hx, hxe, ch, cn, bn, S, F, bn * ch + cn, (bn * ch + cn) * size, hch, hcn, hbn, hS, hF, by push_cast; rfl, rfl, rfl, by push_cast; rfl, ?_, ?_, by omega, by omega, by omega, hbc⟩
 ·generalize cz * ch = T at *
  generalize bn * ch + cn = q at *
  omega
 ·generalize size * (cz * ch) = T at *
  generalize (bn * ch + cn) * size = P at *
  omega
def WherePost (w : World) (D : List MetaV) (bs : List Nat) (size : Nat) (i c b : Int) (e : Ending) (w' : World) : Prop :=
 e = .returned (.tuple #[.int .i64 (whereAt D size i c b), .int .u32 (whereSum D bs i c b : Nat), .int .i64 (whereE D i c b)]) ∧ Below w.heap.size w w'
set_option maxRecDepth 100000 in
set_option maxHeartbeats 16000000 in
theorem Where_any (g size : Nat) (bs : List Nat) (D : List MetaV) (i c b : Int) (w : World) (h : BankAt w g bs size D) (hf : FitB bs size D) :
  Calls Tryz.prog 56 #[.pointer (some ⟨g, 0, none⟩), .int .i64 i, .int .i64 c, .int .i64 b] w (WherePost w D bs size i c b) := by
 have HMe := hid (BMeta_any g size bs D i w h (by have := hf.lo; omega) (by have := hf.many; omega))
 have HMf := hid (show (Tryz.prog.info? 27).map (·.size) = some 9 by kernel_rfl)
 have HO1 := hid (meta_all (metaI D i))
 have Hh := hid h
 have Hf := hid hf
 unfold WherePost
 by_cases hE : metaE D i = 0
 rotate_left
 ·have hE7 : metaE D i = 7 := (metaE_two D i).resolve_left hE
  have hW : whereE D i c b = 7 := if_pos hE
  have hA : whereAt D size i c b = 0 := by unfold whereAt; rw [hW]; rfl
  have hS : whereSum D bs i c b = 0 := by unfold whereSum; rw [hW]; rfl
  rw [hW, hA, hS]
  rw [hE7] at HMe
  generalize metaI D i = x at *
  obtain ⟨nm, len, rate, ch, lp, f, t, sums, first⟩ := x
  clear hE hE7 hW hA hS h hf
  go_enter Tryz.func56, Tryz.ntmps56
  go_wp2_with (go_at_call 36; fail)
  refine HMe.out.mono ?_
  rintro e w2 ⟨rfl, hb2⟩
  go_wp2_with (refine wpList_store_row_w rfl 27 (.tmp 11) (.tmp 18) rfl w2.heap.size rfl _ _ #[.string nm, .int .i64 len, .int .i64 rate, .int .i64 ch, .bool lp, .int .i64 f, .int .i64 t, .int .i64 sums, .int .i64 first] rfl (heap_alloc_new w2 _) HMf.out rfl HO1.out ?_; rw [World.setRow_alloc_new])
  refine bodyPost_ret (results_t3 Tryz.results56 _ _) rfl ?_
  exact ⟨rfl, bnext hb2 (bnew w2 _)⟩
 rw [hE] at HMe
 by_cases hbad : c < 0 ∨ (metaI D i).channels ≤ c ∨ b < 0 ∨ countZ (metaI D i).length ≤ b
 ·have hW : whereE D i c b = 5 := by unfold whereE; rw [if_neg (by simp [hE]), if_pos hbad]
  have hA : whereAt D size i c b = 0 := by unfold whereAt; rw [hW]; rfl
  have hS : whereSum D bs i c b = 0 := by unfold whereSum; rw [hW]; rfl
  rw [hW, hA, hS]
  obtain ⟨r1, _, r3, _⟩ := right_bds (hf.right _ (metaI_mem hE))
  have HCt := hid (fun W => CountI_any (metaI D i).length W (by omega))
  generalize metaI D i = x at *
  obtain ⟨nm, len, rate, ch, lp, f, t, sums, first⟩ := x
  clear hE hW hA hS h hf
  simp only at hbad
  generalize countZ len = cz at *
  by_cases q1 : c < 0
  ·clear hbad
   go_enter Tryz.func56, Tryz.ntmps56
   go_wp2_with (go_at_call 36; fail)
   refine HMe.out.mono ?_
   rintro e w2 ⟨rfl, hb2⟩
   go_wp2_with (refine wpList_store_row_w rfl 27 (.tmp 11) (.tmp 18) rfl w2.heap.size rfl _ _ #[.string nm, .int .i64 len, .int .i64 rate, .int .i64 ch, .bool lp, .int .i64 f, .int .i64 t, .int .i64 sums, .int .i64 first] rfl (heap_alloc_new w2 _) HMf.out rfl HO1.out ?_; rw [World.setRow_alloc_new])
   refine bodyPost_ret (results_t3 Tryz.results56 _ _) rfl ?_
   exact ⟨rfl, bnext hb2 (bnew w2 _)⟩
  by_cases q2 : ch ≤ c
  ·clear hbad
   go_enter Tryz.func56, Tryz.ntmps56
   go_wp2_with (go_at_call 36; fail)
   refine HMe.out.mono ?_
   rintro e w2 ⟨rfl, hb2⟩
   go_wp2_with (refine wpList_store_row_w rfl 27 (.tmp 11) (.tmp 18) rfl w2.heap.size rfl _ _ #[.string nm, .int .i64 len, .int .i64 rate, .int .i64 ch, .bool lp, .int .i64 f, .int .i64 t, .int .i64 sums, .int .i64 first] rfl (heap_alloc_new w2 _) HMf.out rfl HO1.out ?_; rw [World.setRow_alloc_new])
   refine bodyPost_ret (results_t3 Tryz.results56 _ _) rfl ?_
   exact ⟨rfl, bnext hb2 (bnew w2 _)⟩
  by_cases q3 : b < 0
  ·clear hbad
   go_enter Tryz.func56, Tryz.ntmps56
   go_wp2_with (go_at_call 36; fail)
   refine HMe.out.mono ?_
   rintro e w2 ⟨rfl, hb2⟩
   go_wp2_with (refine wpList_store_row_w rfl 27 (.tmp 11) (.tmp 18) rfl w2.heap.size rfl _ _ #[.string nm, .int .i64 len, .int .i64 rate, .int .i64 ch, .bool lp, .int .i64 f, .int .i64 t, .int .i64 sums, .int .i64 first] rfl (heap_alloc_new w2 _) HMf.out rfl HO1.out ?_; rw [World.setRow_alloc_new])
   refine bodyPost_ret (results_t3 Tryz.results56 _ _) rfl ?_
   exact ⟨rfl, bnext hb2 (bnew w2 _)⟩
  have q4 : cz ≤ b := by omega
  clear hbad
  go_enter Tryz.func56, Tryz.ntmps56
  go_wp2_with (go_at_call 36; fail)
  refine HMe.out.mono ?_
  rintro e w2 ⟨rfl, hb2⟩
  go_wp2_with (first | (refine wpList_store_row_w rfl 27 (.tmp 11) (.tmp 18) rfl w2.heap.size rfl _ _ #[.string nm, .int .i64 len, .int .i64 rate, .int .i64 ch, .bool lp, .int .i64 f, .int .i64 t, .int .i64 sums, .int .i64 first] rfl (heap_alloc_new w2 _) HMf.out rfl HO1.out ?_; rw [World.setRow_alloc_new]) | (go_at_call 68; refine (HCt.out _).mono ?_; rintro e w3 ⟨rfl, rfl⟩))
  refine bodyPost_ret (results_t3 Tryz.results56 _ _) rfl ?_
  exact ⟨rfl, bnext hb2 (bnew w2 _)⟩
 ·have hW : whereE D i c b = 0 := by unfold whereE; rw [if_neg (by simp [hE]), if_neg hbad]
  obtain ⟨x, hxD, hxe, chN, cn, bn, S, F, q, P, e1, rfl, rfl, e2, e3, hm1, hq, hP, hm2, l1, l2, ⟨c0, c1⟩, b0, b1, hbc⟩ := where_lies hf hW
  have HA := hid (show whereAt D size i cn bn = ((F + P : Nat) : Int) by
   unfold whereAt frameNo
   rw [if_pos hW, hxe, e1, e3, hm1, ← Int.natCast_add, hq, hm2]
   push_cast; rfl)
  obtain ⟨V, hV⟩ : ∃ V, readTo bs (S + 4 * q) 4 = V := ⟨_, rfl⟩
  have HS := hid (show whereSum D bs i cn bn = V by
   unfold whereSum frameNo
   rw [if_pos hW, hxe, e1, e2, hm1, ← Int.natCast_add, hq, ← hV]
   congr 1)
  have hVb : V < 4294967296 := by rw [← hV]; exact readTo_lt hf.byt _ 4
  obtain ⟨r1, _, r3, _⟩ := right_bds (hf.right _ hxD)
  have HCt := hid (fun W => CountI_any x.length W (by omega))
  have hln := hf.long
  have hlo := hf.lo
  have hhi := hf.hi
  obtain ⟨Ai, ci, Ad, cd, h1, h2, _, h4, _⟩ := h.at_
  have HRd := hid (fun W (hW : Below w.heap.size w W) => (show Calls Tryz.prog 74 #[.slice Ai bs.length ci, .int .i64 ((S : Int) + 4 * (q : Int)), .int .i64 4] W (fun e w' => e = .returned (.int .i64 (V : Nat)) ∧ W = w') from by
   have := read_any bs Ai bs.length ci (S + 4 * q) 4 W rfl (h2.later hW) hf.byt (by omega) (by omega) (by omega)
   rw [hV, show ((S + 4 * q : Nat) : Int) = (S : Int) + 4 * (q : Int) by push_cast; rfl] at this
   exact this))
  have HXc := hid (fun W (hW : Below w.heap.size w W) j v (hv : ([.slice Ai bs.length ci, .int .i64 size, .slice Ad D.length cd] : List Value)[j]? = some v) => (show W.cell? ⟨g, j, none⟩ = some v from by
   have hB : Blk w g 130 [.slice Ai bs.length ci, .int .i64 size, .slice Ad D.length cd] := h1
   rw [blk_cells (hB.below hW hB.lt) j]; exact hv))
  rw [HA.out, HS.out, hW]
  rw [hxe] at HMe HO1
  clear hbad hE hW hxe hf h h1 h2 h4 hxD hV HA HS Hf Hh
  obtain ⟨nm, len, rate, ch, lp, f, t, sums, first⟩ := x
  simp only at e1 e2 e3 c1 b1 r1 r3 HCt
  subst e1 e2 e3
  generalize countZ len = cz at *
  generalize bs.length = n at *
  generalize D.length = dn at *
  obtain ⟨Q0, hQ0⟩ : ∃ Q0, bn * chN = Q0 := ⟨_, rfl⟩
  rw [hQ0] at hm1 hq hbc
  have hqi : (Q0 : Int) + (cn : Int) = (q : Int) := by omega
  have HFP := hid (show (F : Int) + (P : Int) = ((F + P : Nat) : Int) by push_cast; rfl)
  have hwV : IntKind.u32.wrap (V : Int) = (V : Int) := by rw [IntKind.wrap_u32]; omega
  have k1 : ¬ (cn : Int) < 0 := by omega
  have k2 : ¬ (chN : Int) ≤ (cn : Int) := by omega
  have k3 : ¬ (bn : Int) < 0 := by omega
  have k4 : ¬ cz ≤ (bn : Int) := by omega
  clear hQ0 hq hP
  go_enter Tryz.func56, Tryz.ntmps56
  go_wp2_with (go_at_call 36; fail)
  refine HMe.out.mono ?_
  rintro e w2 ⟨rfl, hb2⟩
  have B2 := hid (bnext hb2 (bnew w2 (.cells #[.string nm, .int .i64 len, .int .i64 rate, .int .i64 chN, .bool lp, .int .i64 f, .int .i64 t, .int .i64 S, .int .i64 F] 27)))
  clear hb2
  go_wp2_with (first | (refine wpList_store_row_w rfl 27 (.tmp 11) (.tmp 18) rfl w2.heap.size rfl _ _ #[.string nm, .int .i64 len, .int .i64 rate, .int .i64 chN, .bool lp, .int .i64 f, .int .i64 t, .int .i64 S, .int .i64 F] rfl (heap_alloc_new w2 _) HMf.out rfl HO1.out ?_; rw [World.setRow_alloc_new]) | (go_at_call 68; refine (HCt.out _).mono ?_; rintro e w3 ⟨rfl, rfl⟩))
  obtain ⟨w3, hw3⟩ : ∃ w3, w2.alloc (.cells #[.string nm, .int .i64 len, .int .i64 rate, .int .i64 chN, .bool lp, .int .i64 f, .int .i64 t, .int .i64 S, .int .i64 F] 27) = w3 := ⟨_, rfl⟩
  rw [hw3] at B2 ⊢
  have M3 := hid (show Blk w3 w2.heap.size 27 [.string nm, .int .i64 len, .int .i64 rate, .int .i64 chN, .bool lp, .int .i64 f, .int .i64 t, .int .i64 S, .int .i64 F] by rw [← hw3]; exact Blk.new w2 _ [.string nm, .int .i64 len, .int .i64 rate, .int .i64 chN, .bool lp, .int .i64 f, .int .i64 t, .int .i64 S, .int .i64 F])
  clear hw3
  have m7 := fun (z : GW w3) => (show z.1.cell? ⟨w2.heap.size, 7, none⟩ = some (.int .i64 S) from blk_cells (M3.out.below z.2 M3.out.lt) 7)
  have m8 := fun (z : GW w3) => (show z.1.cell? ⟨w2.heap.size, 8, none⟩ = some (.int .i64 F) from blk_cells (M3.out.below z.2 M3.out.lt) 8)
  have x0 := fun (z : GW w3) => HXc.out z.1 (bnext B2.out z.2) 0 _ rfl
  have x1 := fun (z : GW w3) => HXc.out z.1 (bnext B2.out z.2) 1 _ rfl
  have HR3 := hid (fun (z : GW w3) => HRd.out z.1 (bnext B2.out z.2))
  refine wp_region_calm (by kernel_rfl) (by kernel_rfl) ?_
  repeat (go_big_quiet_step ((go_at_call 74; exact calm_same (HR3.out _))))
  refine wpQuiet_nil ?_
  intro w5 hw'
  have B5 := hid (gw_below hw')
  clear hw' m7 m8 x0 x1
  go_wp2
  refine bodyPost_ret (results_t3 Tryz.results56 _ _) rfl ?_
  exact ⟨by rw [← HFP.out]; rfl, bnext B2.out B5.out⟩
end Go.Proofs.YtgcfkblmnpnogaaGreatDoor
namespace Go.Proofs.YtgcfkblmnpnogaaGreatDoor
open Go.RowKit Go.Lib
def BytesP (w : World) (D : List MetaV) (bs : List Nat) (size : Nat) (i c b : Int) (e : Ending) (w' : World) : Prop :=
 Below w.heap.size w w' ∧ ((whereE D i c b ≠ 0 ∧ e = .returned (.tuple #[.slice none 0 0, .int .i64 (whereE D i c b)])) ∨
  (whereE D i c b = 0 ∧ ∃ A c', e = .returned (.tuple #[.slice A size c', .int .i64 0]) ∧ size ≤ c' ∧ c' ≤ 9223372036854775807 ∧ (A = none → c' = 0) ∧ Row w' w'.heap.size A (u8s (subB bs (whereAt D size i c b).toNat size))))
set_option maxRecDepth 100000 in
set_option maxHeartbeats 16000000 in
theorem Bytes_any (g size : Nat) (bs : List Nat) (D : List MetaV) (i c b : Int) (w : World) (h : BankAt w g bs size D) (hf : FitB bs size D) :
  Calls Tryz.prog 21 #[.pointer (some ⟨g, 0, none⟩), .int .i64 i, .int .i64 c, .int .i64 b] w (BytesP w D bs size i c b) := by
 have HW := hid (Where_any g size bs D i c b w h hf)
 unfold BytesP
 unfold WherePost at HW
 by_cases hE : whereE D i c b = 0
 rotate_left
 ·have hA : whereAt D size i c b = 0 := if_neg hE
  have hS : whereSum D bs i c b = 0 := if_neg hE
  rw [hA, hS] at HW
  generalize whereE D i c b = E at *
  have t1 : (E != 0) = true := by rw [bne_iff_ne]; exact hE
  have t2 : (E == 0) = false := beq_eq_false_iff_ne.2 hE
  have HE := hid hE
  clear hE hA hS h hf
  go_enter Tryz.func21, Tryz.ntmps21
  go_wp2_with (go_at_call 56; fail)
  refine HW.out.mono ?_
  rintro e w2 ⟨rfl, hb2⟩
  go_wp2
  refine bodyPost_ret (results_tmp2 Tryz.results21 _ _ _) rfl ?_
  exact ⟨hb2, .inl ⟨HE.out, rfl⟩⟩
 ·obtain ⟨x, hxD, hxe, chN, cn, bn, S, F, q, P, e1, rfl, rfl, e2, e3, hm1, hq, hP, hm2, l1, l2, _, b0, b1, hbc⟩ := where_lies hf hE
  have hA : whereAt D size i cn bn = ((F + P : Nat) : Int) := by
   unfold whereAt frameNo
   rw [if_pos hE, hxe, e1, e3, hm1, ← Int.natCast_add, hq, hm2]
   push_cast; rfl
  have hVb : whereSum D bs i cn bn < 4294967296 := by
   rw [show whereSum D bs i cn bn = readTo bs ((metaI D i).sums + 4 * frameNo D i cn bn).toNat 4 from if_pos hE]
   exact readTo_lt hf.byt _ 4
  rw [hA, hE] at HW
  obtain ⟨V, hV⟩ : ∃ V, whereSum D bs i cn bn = V := ⟨_, rfl⟩
  rw [hV] at HW hVb
  have HEn := hid hE
  obtain ⟨AT, hAT⟩ : ∃ AT, F + P = AT := ⟨_, rfl⟩
  rw [hAT] at HW hA l2
  have HAn := hid (show (whereAt D size i cn bn).toNat = AT by rw [hA]; rfl)
  rw [HAn.out, hE]
  have hln := hf.long
  have hlo := hf.lo
  have hhi := hf.hi
  obtain ⟨Ai, ci, Ad, cd, h1, h2, _, h4, h5, _, _, _, _⟩ := h.at_
  obtain ⟨y0, hy0⟩ : ∃ y0, bs[0]? = some y0 := ⟨_, List.getElem?_eq_getElem (by omega)⟩
  obtain ⟨gi, off, rfl, _, _⟩ := h2 0 _ (u8s_get hy0)
  have HXc := hid (fun W (hW : Below w.heap.size w W) j v (hv : ([.slice (some ⟨gi, off, none⟩) bs.length ci, .int .i64 size, .slice Ad D.length cd] : List Value)[j]? = some v) => (show W.cell? ⟨g, j, none⟩ = some v from by
   have hB : Blk w g 130 [.slice (some ⟨gi, off, none⟩) bs.length ci, .int .i64 size, .slice Ad D.length cd] := h1
   rw [blk_cells (hB.below hW hB.lt) j]; exact hv))
  have HCl := hid (fun W (hW : Below w.heap.size w W) => (show Calls Tryz.prog 75 #[.slice (some ⟨gi, off + AT, none⟩) size (ci - AT)] W (CopyP W 5 1 size (u8s (subB bs AT size))) from by
   have hr := (((h2.later hW).drop_ AT).take size)
   rw [u8s_drop, u8s_take, subB_drop (by omega)] at hr
   exact cloneB_any (subB bs AT size) (some ⟨gi, off + AT, none⟩) size (ci - AT) W (subB_len _ _ _) (by omega) nofun hr))
  clear hE hxe hf h h1 h2 hxD hV hA e1 e2 e3 hm1 hq hP hm2 hAT hy0 b1 b0 HAn hbc l1
  generalize whereE D i cn bn = E at *
  generalize bs.length = n at *
  generalize D.length = dn at *
  have k1 : AT + size ≤ n := by omega
  have k2 : n ≤ ci := by omega
  have hati : (AT : Int) + (size : Int) = ((AT + size : Nat) : Int) := by push_cast; rfl
  have Hati := hid hati
  clear hati l2
  go_enter Tryz.func21, Tryz.ntmps21
  go_wp2_with (go_at_call 56; fail)
  refine HW.out.mono ?_
  rintro e w2 ⟨rfl, hb2⟩
  have B2 := hid hb2
  clear hb2
  go_wp2_with fail
  have x0 := fun (z : GW w2) => HXc.out z.1 (bnext B2.out z.2) 0 _ rfl
  have x1 := fun (z : GW w2) => HXc.out z.1 (bnext B2.out z.2) 1 _ rfl
  refine wp_region_calm_tail 12 (by kernel_rfl) (by kernel_rfl) ?_
  simp only [List.take_succ_cons, List.take_zero, List.drop_succ_cons, List.drop_zero]
  repeat (go_big_quiet_step (fail))
  refine wpQuiet_nil ?_
  intro w5 hw'
  have B5 := hid (gw_below hw')
  clear hw' x0 x1
  have HC5 := hid (HCl.out w5 (bnext B2.out B5.out))
  go_wp2_with (go_at_call 75; fail)
  refine HC5.out.mono ?_
  rintro e w6 ⟨A6, c6, rfl, h6c, h6m, h6n, hown, hb6⟩
  have R6 := hid (Row.of_own hown)
  clear hown
  go_wp2
  refine bodyPost_ret (results_tmp2 Tryz.results21 _ _ _) rfl ?_
  exact ⟨bnext (bnext B2.out B5.out) hb6, .inr ⟨trivial, A6, c6, rfl, h6c, h6m, h6n, R6.out⟩⟩
end Go.Proofs.YtgcfkblmnpnogaaGreatDoor
namespace Go.Proofs.YtgcfkblmnpnogaaGreatDoor
open Go.RowKit Go.Lib
theorem layG_all {i V : Nat} : ∀ {W : List (Nat × List Nat)} {v : Nat}, (∀ p ∈ W, p.1 ≤ i ∧ i < p.1 + p.2.length → p.2.getD (i - p.1) 0 = V) → (∃ p ∈ W, p.1 ≤ i ∧ i < p.1 + p.2.length) → layG W i v = V
 | [], _, _, he => by obtain ⟨p, hp, _⟩ := he; simp at hp
 | p :: r, v, h, he => by
  show layG r i _ = V
  by_cases hr : ∃ q ∈ r, q.1 ≤ i ∧ i < q.1 + q.2.length
  ·exact layG_all (fun q hq => h q (by simp [hq])) hr
  ·rw [layG_far (fun q hq => by
    have : ¬ (q.1 ≤ i ∧ i < q.1 + q.2.length) := fun hc => hr ⟨q, hq, hc⟩
    omega)]
   obtain ⟨q, hq, hc⟩ := he
   rcases List.mem_cons.1 hq with rfl | hq
   ·rw [if_pos hc]; exact h q (by simp) hc
   ·exact absurd ⟨q, hq, hc⟩ hr
structure FrW (first sums size : Nat) (rows : List (List Int)) (p : Nat × List Nat) (k i : Nat) (d : List Int) (x : FrameV) : Prop where
 hk : k < rows.length
 row : rows[k]? = some d
 hi : i < countN d.length
 fr : (framesZ d size)[i]? = some x
 eq : p = (first + (i * rows.length + k) * size, frameBytes x size) ∨ p = (sums + 4 * (i * rows.length + k), numB 4 (crcZ (frameBytes x size)).toNat)
theorem mem_chanW {first sums size ch k : Nat} {fs : List FrameV} {p : Nat × List Nat} : ∀ n, p ∈ chanW first sums size ch k fs n → ∃ i x, i < n ∧ fs[i]? = some x ∧ p ∈ frameW first sums size (i * ch + k) x
 | 0, h => by simp [chanW] at h
 | n + 1, h => by
  unfold chanW at h
  rcases List.mem_append.1 h with h | h
  ·obtain ⟨i, x, h1, h2, h3⟩ := mem_chanW n h
   exact ⟨i, x, by omega, h2, h3⟩
  ·cases hx : fs[n]? with
   | none => rw [hx] at h; simp at h
   | some x => rw [hx] at h; exact ⟨n, x, by omega, hx, h⟩
theorem mem_layTo {first sums size : Nat} {rows : List (List Int)} {p : Nat × List Nat} : ∀ K, K ≤ rows.length → p ∈ layTo first sums size rows K → ∃ k i d x, FrW first sums size rows p k i d x
 | 0, _, h => by simp [layTo] at h
 | K + 1, hK, h => by
  unfold layTo at h
  rcases List.mem_append.1 h with h | h
  ·exact mem_layTo K (by omega) h
  ·cases hd : rows[K]? with
   | none => rw [hd] at h; simp at h
   | some d =>
    rw [hd] at h
    obtain ⟨i, x, h1, h2, h3⟩ := mem_chanW _ h
    simp only [frameW, List.mem_cons, List.not_mem_nil, or_false] at h3
    exact ⟨K, i, d, x, by omega, hd, h1, h2, h3⟩
theorem chanW_mem {first sums size ch k : Nat} {fs : List FrameV} {i : Nat} {x : FrameV} {p : Nat × List Nat} (hx : fs[i]? = some x) (hp : p ∈ frameW first sums size (i * ch + k) x) : ∀ n, i < n → p ∈ chanW first sums size ch k fs n
 | 0, h => by omega
 | n + 1, h => by
  unfold chanW
  by_cases hi : i = n
  ·subst hi
   rw [hx]
   exact List.mem_append_right _ hp
  ·exact List.mem_append_left _ (chanW_mem hx hp n (by omega))
theorem layTo_mem {first sums size : Nat} {rows : List (List Int)} {p : Nat × List Nat} {k i : Nat} {d : List Int} {x : FrameV} (h : FrW first sums size rows p k i d x) : ∀ K, k < K → p ∈ layTo first sums size rows K
 | 0, hK => by omega
 | K + 1, hK => by
  unfold layTo
  by_cases hk : k = K
  ·subst hk
   rw [h.row]
   refine List.mem_append_right _ (chanW_mem h.fr ?_ _ h.hi)
   simp only [frameW, List.mem_cons, List.not_mem_nil, or_false]
   exact h.eq
  ·exact List.mem_append_left _ (layTo_mem h K (by omega))
theorem no_two {R i k i' k' : Nat} (hk : k < R) (hk' : k' < R) (h : i * R + k = i' * R + k') : i = i' ∧ k = k' := by
 have h1 : (i * R + k) / R = i := by rw [Nat.mul_comm, Nat.mul_add_div (by omega), Nat.div_eq_of_lt hk]; omega
 have h2 : (i' * R + k') / R = i' := by rw [Nat.mul_comm, Nat.mul_add_div (by omega), Nat.div_eq_of_lt hk']; omega
 have : i = i' := by rw [← h1, ← h2, h]
 subst this
 exact ⟨rfl, by omega⟩
section
variable {size : Nat} {SS : List SampV}
theorem mem_packTo {PM : List MetaV} {p : Nat × List Nat} : ∀ M, p ∈ packTo size SS PM M → ∃ m s x, m < M ∧ SS[m]? = some s ∧ PM[m]? = some x ∧ p ∈ layTo x.first.toNat x.sums.toNat size s.rows s.rows.length
 | 0, h => by simp [packTo] at h
 | M + 1, h => by
  unfold packTo at h
  rcases List.mem_append.1 h with h | h
  ·obtain ⟨m, s, x, h1, h2⟩ := mem_packTo M h
   exact ⟨m, s, x, by omega, h2⟩
  ·cases hs : SS[M]? with
   | none => rw [hs] at h; simp at h
   | some s =>
    cases hx : PM[M]? with
    | none => rw [hs, hx] at h; simp at h
    | some x => rw [hs, hx] at h; exact ⟨M, s, x, by omega, hs, hx, h⟩
theorem packTo_mem {PM : List MetaV} {p : Nat × List Nat} {m : Nat} {s : SampV} {x : MetaV} (hs : SS[m]? = some s) (hx : PM[m]? = some x) (hp : p ∈ layTo x.first.toNat x.sums.toNat size s.rows s.rows.length) : ∀ M, m < M → p ∈ packTo size SS PM M
 | 0, h => by omega
 | M + 1, h => by
  unfold packTo
  by_cases hm : m = M
  ·subst hm
   rw [hs, hx]
   exact List.mem_append_right _ hp
  ·exact List.mem_append_left _ (packTo_mem hs hx hp M (by omega))
structure SPlace (size : Nat) (SS : List SampV) (m : Nat) (s : SampV) (F S cnt R A B : Nat) : Prop where
 fst : ((packDir size SS)[m]?).map (·.first) = some (F : Int)
 sum : ((packDir size SS)[m]?).map (·.sums) = some (S : Int)
 hcnt : countN (len0 s.rows) = cnt
 hR : s.rows.length = R
 ha : atTo size (SS.map metaOf) m = A
 hb : atTo size (SS.map metaOf) (m + 1) = B
 lo : A = S
 mid : S + 4 * (cnt * R) ≤ F
 up : F + size * (cnt * R) = B
theorem CanP.place (h : CanP size SS) {m : Nat} {s : SampV} (hs : SS[m]? = some s) : ∃ F S cnt R A B, SPlace size SS m s F S cnt R A B := by
 have hm := (List.getElem?_eq_some_iff.1 hs).1
 have hx : (SS.map metaOf)[m]? = some (metaOf s) := by rw [List.getElem?_map, hs]; rfl
 have hb := h.bd m (by omega)
 have hb2 := h.bd (m + 1) (by omega)
 have hsu := atTo_succ (size := (size : Int)) hx
 have hfr := framesN_nat s
 rw [hfr] at hsu
 have hge := upZ16_ge (atTo size (SS.map metaOf) m + 4 * framesN (metaOf s))
 rw [hfr] at hge
 obtain ⟨A, hA⟩ := Int.eq_ofNat_of_zero_le hb.1
 obtain ⟨B, hB⟩ := Int.eq_ofNat_of_zero_le hb2.1
 have hu0 : 0 ≤ upZ (atTo size (SS.map metaOf) m + 4 * ((countN (len0 s.rows) * s.rows.length : Nat) : Int)) 16 := by omega
 obtain ⟨F, hF⟩ := Int.eq_ofNat_of_zero_le hu0
 have e1 : (size : Int) * ((countN (len0 s.rows) * s.rows.length : Nat) : Int) = ((size * (countN (len0 s.rows) * s.rows.length) : Nat) : Int) := by push_cast; rfl
 rw [hF, e1, hB] at hsu
 rw [hF, hA] at hge
 refine ⟨F, A, _, _, A, B, ?_, ?_, rfl, rfl, hA, hB, rfl, ?_, ?_⟩
 ·rw [packDir_get hs]
  show some (upZ (atTo size (SS.map metaOf) m + 4 * framesN (metaOf s)) 16) = _
  rw [hfr, hF]
 ·rw [packDir_get hs]
  show some (atTo size (SS.map metaOf) m) = _
  rw [hA]
 ·generalize countN (len0 s.rows) * s.rows.length = T at *
  omega
 ·generalize size * (countN (len0 s.rows) * s.rows.length) = T at *
  omega
theorem FrW.lies {m : Nat} {s : SampV} {F S cnt R A B : Nat} (h : CanP size SS) (hs : SS[m]? = some s) (hp : SPlace size SS m s F S cnt R A B) {p : Nat × List Nat} {k i : Nat} {d : List Int} {x : FrameV} (hf : FrW F S size s.rows p k i d x) :
  ∃ q, q = i * R + k ∧ q + 1 ≤ cnt * R ∧ q * size + size ≤ size * (cnt * R) ∧ (frameBytes x size).length = size ∧ (p = (F + q * size, frameBytes x size) ∨ p = (S + 4 * q, numB 4 (crcZ (frameBytes x size)).toNat)) ∧ S ≤ p.1 ∧ p.1 + p.2.length ≤ B := by
 have hfine := h.fine s (List.mem_of_getElem? hs)
 have hdm := List.mem_of_getElem? hf.row
 have hRi := framesZ_right (hfine.good.2 d hdm).2 (size := (size : Int)) (by have := h.lo; omega) (by have := h.hi; omega) x (List.mem_of_getElem? hf.fr)
 have hlen := frameBytes_len hRi.1 hRi.2
 have hi : i < cnt := by have := hf.hi; rw [hfine.same d hdm, hp.hcnt] at this; exact this
 have hk : k < R := by have := hf.hk; rw [hp.hR] at this; exact this
 have hq : i * R + k + 1 ≤ cnt * R := by
  have := Nat.mul_le_mul_right R (show i + 1 ≤ cnt by omega)
  rw [Nat.succ_mul] at this
  omega
 have hqs : (i * R + k) * size + size ≤ size * (cnt * R) := by
  have := Nat.mul_le_mul_right size hq
  rw [Nat.succ_mul, Nat.mul_comm (cnt * R) size] at this
  exact this
 have he := hf.eq
 rw [hp.hR] at he
 have h1 := hp.mid
 have h2 := hp.up
 refine ⟨i * R + k, rfl, hq, hqs, hlen, he, ?_⟩
 generalize size * (cnt * R) = T at *
 generalize cnt * R = T2 at *
 rcases he with rfl | rfl
 ·rw [hlen]
  show S ≤ F + _ ∧ F + _ + size ≤ B
  generalize (i * R + k) * size = P at *
  omega
 ·rw [numB_len]
  show S ≤ S + 4 * _ ∧ S + 4 * _ + 4 ≤ B
  generalize i * R + k = q at *
  omega
theorem SPlace.nat {m : Nat} {s : SampV} {F S cnt R A B : Nat} (hp : SPlace size SS m s F S cnt R A B) {x : MetaV} (hx : (packDir size SS)[m]? = some x) : x.first.toNat = F ∧ x.sums.toNat = S := by
 have h1 := hp.fst
 have h2 := hp.sum
 rw [hx] at h1 h2
 have h1' : x.first = F := Option.some.inj h1
 have h2' : x.sums = S := Option.some.inj h2
 rw [h1', h2']
 exact ⟨rfl, rfl⟩
theorem CanP.apart (h : CanP size SS) {p p' : Nat × List Nat} (hp : p ∈ packTo size SS (packDir size SS) SS.length) (hp' : p' ∈ packTo size SS (packDir size SS) SS.length) {j : Nat}
  (c1 : p.1 ≤ j ∧ j < p.1 + p.2.length) (c2 : p'.1 ≤ j ∧ j < p'.1 + p'.2.length) : p = p' := by
 obtain ⟨m, s, x, hm, hs, hx, hl⟩ := mem_packTo _ hp
 obtain ⟨m', s', x', hm', hs', hx', hl'⟩ := mem_packTo _ hp'
 obtain ⟨F, S, cnt, R, A, B, hpl⟩ := h.place hs
 obtain ⟨F', S', cnt', R', A', B', hpl'⟩ := h.place hs'
 rw [(hpl.nat hx).1, (hpl.nat hx).2] at hl
 rw [(hpl'.nat hx').1, (hpl'.nat hx').2] at hl'
 obtain ⟨k, i, d, y, hf⟩ := mem_layTo _ (Nat.le_refl _) hl
 obtain ⟨k', i', d', y', hf'⟩ := mem_layTo _ (Nat.le_refl _) hl'
 obtain ⟨q, hq, q1, q2, hlen, he, l1, l2⟩ := hf.lies h hs hpl
 obtain ⟨q', hq', q1', q2', hlen', he', l1', l2'⟩ := hf'.lies h hs' hpl'
 have hmono := fun (a b : Nat) (hab : a ≤ b) => atTo_mono (size := (size : Int)) (by have := h.lo; omega) h.few hab
 rcases Nat.lt_trichotomy m m' with hlt | heq | hgt
 ·have := hmono (m + 1) m' hlt
  rw [hpl.hb, hpl'.ha, hpl'.lo] at this
  omega
 ·subst heq
  rw [hs] at hs'
  injection hs' with hs'
  subst hs'
  rw [hx] at hx'
  injection hx' with hx'
  subst hx'
  have e1 := (hpl.nat hx).1.symm.trans (hpl'.nat hx).1
  have e2 := (hpl.nat hx).2.symm.trans (hpl'.nat hx).2
  have e3 := hpl.hR.symm.trans hpl'.hR
  have e4 := hpl.hcnt.symm.trans hpl'.hcnt
  subst e1 e2 e3 e4
  have hmid := hpl.mid
  have hkR : k < R := by have := hf.hk; rw [hpl.hR] at this; exact this
  have hkR' : k' < R := by have := hf'.hk; rw [hpl.hR] at this; exact this
  have same : q = q' → p = p' ∨ (p = (F + q * size, frameBytes y size) ∧ p' = (S + 4 * q, numB 4 (crcZ (frameBytes y size)).toNat)) ∨ (p' = (F + q * size, frameBytes y size) ∧ p = (S + 4 * q, numB 4 (crcZ (frameBytes y size)).toNat)) := fun e => by
   rw [hq, hq'] at e
   obtain ⟨ei, ek⟩ := no_two hkR hkR' e
   subst ei ek
   have er := hf.row.symm.trans hf'.row
   injection er with er
   subst er
   have ef := hf.fr.symm.trans hf'.fr
   injection ef with ef
   subst ef
   rw [← hq] at hq'
   subst hq'
   rcases he with rfl | rfl <;> rcases he' with rfl | rfl
   ·exact .inl rfl
   ·exact .inr (.inl ⟨rfl, rfl⟩)
   ·exact .inr (.inr ⟨rfl, rfl⟩)
   ·exact .inl rfl
  have cross : ∀ (a b : Nat), a + 1 ≤ cnt * R → F + b * size ≤ j → ¬ (S + 4 * a ≤ j ∧ j < S + 4 * a + 4) := fun a b h1 h2 h3 => by
   generalize cnt * R = T at *
   generalize b * size = P at *
   omega
  have key : ∀ a b : Nat, a * size ≤ j - F → j - F < a * size + size → b * size ≤ j - F → j - F < b * size + size → a = b := fun a b h1 h2 h3 h4 => by
   have ha : (j - F) / size = a := by
    rw [Nat.div_eq_iff (by have := h.lo; omega)]
    constructor <;> omega
   have hb : (j - F) / size = b := by
    rw [Nat.div_eq_iff (by have := h.lo; omega)]
    constructor <;> omega
   omega
  rcases he with hpe | hpe <;> rcases he' with hpe' | hpe'
  ·have c1' := c1
   have c2' := c2
   rw [hpe, hlen] at c1'
   rw [hpe', hlen'] at c2'
   simp only at c1' c2'
   have e := key q q' (by omega) (by omega) (by omega) (by omega)
   rcases same e with h1 | ⟨_, h1⟩ | ⟨_, h1⟩
   ·exact h1
   ·rw [h1] at c2; rw [numB_len] at c2; exact absurd c2 (cross q q q1 (by omega))
   ·rw [h1] at c1; rw [numB_len] at c1; exact absurd c1 (cross q q q1 (by omega))
  ·rw [hpe, hlen] at c1
   rw [hpe', numB_len] at c2
   exact absurd c2 (cross q' q q1' c1.1)
  ·rw [hpe, numB_len] at c1
   rw [hpe', hlen'] at c2
   exact absurd c1 (cross q q' q1 c2.1)
  ·have c1' := c1
   have c2' := c2
   rw [hpe, numB_len] at c1'
   rw [hpe', numB_len] at c2'
   simp only at c1' c2'
   have e : q = q' := by omega
   rcases same e with h1 | ⟨h1, _⟩ | ⟨h1, _⟩
   ·exact h1
   ·rw [h1, hlen] at c1; exact absurd c1' (cross q q q1 c1.1)
   ·rw [h1] at c2; rw [e] at c2; exact absurd c2' (cross q' q' q1' c2.1)
 ·have := hmono (m' + 1) m hgt
  rw [hpl'.hb, hpl.ha, hpl.lo] at this
  omega
end
end Go.Proofs.YtgcfkblmnpnogaaGreatDoor
namespace Go.Proofs.YtgcfkblmnpnogaaGreatDoor
open Go.RowKit Go.Lib
section
variable {size : Nat} {SS : List SampV}
end
end Go.Proofs.YtgcfkblmnpnogaaGreatDoor
namespace Go.Proofs.YtgcfkblmnpnogaaGreatDoor
open Go.RowKit Go.Lib
def packE (size : Int) (ss : List SampV) : Int := if size < 24 ∨ 96 < size then 12 else checkAllZ ss
def PackP (w : World) (size : Int) (ss : List SampV) (e : Ending) (w' : World) : Prop :=
 Below w.heap.size w w' ∧ ((packE size ss ≠ 0 ∧ e = .returned (.tuple #[.slice none 0 0, .int .i64 (packE size ss)])) ∨
  (packE size ss = 0 ∧ ∃ (sz g : Nat), size = sz ∧ CanP sz (sortS ss) ∧ w.heap.size ≤ g ∧ BytesAt w' g (packZ sz (sortS ss)) ∧ e = .returned (.tuple #[.slice (some ⟨g, 0, none⟩) (packLen sz (sortS ss)) (packLen sz (sortS ss)), .int .i64 0])))
theorem Pack_any (size : Int) (L : List (HSamp × SampV)) (A : Option Addr) (cap : Nat) (w : World) (hl : L.length ≤ 8) (hn : A = none → cap = 0) (hs : SampsAt w w.heap.size A L) (hsm : ∀ p ∈ L, p.2.small) :
  Calls Tryz.prog 49 #[.int .i64 size, .slice A L.length cap] w (PackP w size (L.map (·.2))) := by
 by_cases hsz : size < 24 ∨ 96 < size
 ·have hE : packE size (L.map (·.2)) = 12 := if_pos hsz
  refine (Pack_size size A L.length cap w hsz).mono ?_
  rintro e w' ⟨he, hb⟩
  exact ⟨hb, .inl ⟨by rw [hE]; decide, by rw [hE]; exact he⟩⟩
 ·have hE0 : packE size (L.map (·.2)) = checkAllZ (L.map (·.2)) := if_neg hsz
  by_cases hE : checkAllZ (L.map (·.2)) = 0
  ·obtain ⟨sz, rfl⟩ := Int.eq_ofNat_of_zero_le (show 0 ≤ size by omega)
   refine (Pack_ok sz L A cap w (by omega) (by omega) hl hn hs hsm hE).mono ?_
   rintro e w' ⟨g, he, hg, hb, hbel⟩
   refine ⟨hbel, .inr ⟨by rw [hE0]; exact hE, sz, g, rfl, canP_of (by omega) (by omega) (by rw [List.length_map]; exact hl) (fun s hs => ?_) hE, hg, hb, he⟩⟩
   obtain ⟨p, hp, rfl⟩ := List.mem_map.1 hs
   exact hsm p hp
  ·refine (Pack_bad size _ L A cap w (by omega) (by omega) hl hs rfl hE).mono ?_
   rintro e w' ⟨he, hb⟩
   exact ⟨hb, .inl ⟨by rw [hE0]; exact hE, by rw [hE0]; exact he⟩⟩
end Go.Proofs.YtgcfkblmnpnogaaGreatDoor
namespace Go.Proofs.YtgcfkblmnpnogaaGreatDoor
open Go.RowKit Go.Lib
end Go.Proofs.YtgcfkblmnpnogaaGreatDoor
namespace Go.Proofs.YtgcfkblmnpnogaaGreatDoor
open Go.RowKit Go.Lib
end Go.Proofs.YtgcfkblmnpnogaaGreatDoor
namespace Go.Proofs.YtgcfkblmnpnogaaGreatDoor
open Go.RowKit Go.Lib
def kTo (PM : List MetaV) (nf : Nat) : Nat → Nat
 | 0 => 0
 | m + 1 => match PM[m]? with
  | some x => min (kTo PM nf m + (framesN x).toNat) nf
  | none => kTo PM nf m
def lawF (size : Nat) (x : MetaV) (FR : List (List Nat)) (k : Nat) : Nat → List (Nat × List Nat)
 | 0 => []
 | n + 1 => lawF size x FR k n ++ match FR[k + n]? with
  | some f => [(x.sums.toNat + 4 * n, numB 4 (crcZ f).toNat), (x.first.toNat + size * n, f)]
  | none => []
def lawTo (size : Nat) (PM : List MetaV) (FR : List (List Nat)) : Nat → List (Nat × List Nat)
 | 0 => []
 | m + 1 => lawTo size PM FR m ++ match PM[m]? with
  | some x => entryW (16 + 64 * m) x ++ lawF size x FR (kTo PM FR.length m) (framesN x).toNat
  | none => []
def lawB (size : Nat) (PM : List MetaV) (FR : List (List Nat)) (N : Nat) : List Nat := lays (List.replicate N 0) (headW N PM.length size ++ lawTo size PM FR PM.length)
def lawZ (size : Nat) (PM : List MetaV) (FR : List (List Nat)) (N : Nat) : List Nat :=
 putAt (lawB size PM FR N) (16 + 64 * PM.length) (numB 4 (crcZ ((lawB size PM FR N).take (16 + 64 * PM.length))).toNat)
theorem kTo_succ {PM : List MetaV} {nf m : Nat} {x : MetaV} (h : PM[m]? = some x) : kTo PM nf (m + 1) = min (kTo PM nf m + (framesN x).toNat) nf := by
 show (match PM[m]? with | some x => min (kTo PM nf m + (framesN x).toNat) nf | none => kTo PM nf m) = _
 rw [h]
theorem lawTo_succ {size : Nat} {PM : List MetaV} {FR : List (List Nat)} {m : Nat} {x : MetaV} (h : PM[m]? = some x) : lawTo size PM FR (m + 1) = lawTo size PM FR m ++ (entryW (16 + 64 * m) x ++ lawF size x FR (kTo PM FR.length m) (framesN x).toNat) := by
 show lawTo size PM FR m ++ (match PM[m]? with | some x => _ | none => _) = _
 rw [h]
end Go.Proofs.YtgcfkblmnpnogaaGreatDoor
namespace Go.Proofs.YtgcfkblmnpnogaaGreatDoor
open Go.RowKit Go.Lib
theorem byt_gd {X : List Nat} (hX : Byt X) (i : Nat) : X.getD i 0 < 256 := by
 rw [List.getD_eq_getElem?_getD]
 cases h : X[i]? with
 | none => exact (by decide : (0 : Nat) < 256)
 | some y => exact hX y (List.mem_of_getElem? h)
theorem num4_read {X : List Nat} (hX : Byt X) (a : Nat) {j : Nat} (hj : j < 4) : (numB 4 (readTo X a 4)).getD j 0 = X.getD (a + j) 0 := by
 have b0 := byt_gd hX (a + 0)
 have b1 := byt_gd hX (a + 1)
 have b2 := byt_gd hX (a + 2)
 have b3 := byt_gd hX (a + 3)
 have e : readTo X a 4 = (((0 * 256 + X.getD (a + 0) 0) * 256 + X.getD (a + 1) 0) * 256 + X.getD (a + 2) 0) * 256 + X.getD (a + 3) 0 := rfl
 rw [numB_gd hj, e]
 rcases (show j = 0 ∨ j = 1 ∨ j = 2 ∨ j = 3 by omega) with rfl | rfl | rfl | rfl
 all_goals
  simp only [Nat.reduceMul, Nat.reduceSub, Nat.reducePow, Nat.sub_zero, Nat.sub_self, Nat.mul_zero, Nat.pow_zero]
  omega
theorem num2_read {X : List Nat} (hX : Byt X) (a : Nat) {j : Nat} (hj : j < 2) : (numB 2 (readTo X a 2)).getD j 0 = X.getD (a + j) 0 := by
 have b0 := byt_gd hX (a + 0)
 have b1 := byt_gd hX (a + 1)
 have e : readTo X a 2 = (0 * 256 + X.getD (a + 0) 0) * 256 + X.getD (a + 1) 0 := rfl
 rw [numB_gd hj, e]
 rcases (show j = 0 ∨ j = 1 by omega) with rfl | rfl
 all_goals
  simp only [Nat.reduceMul, Nat.reduceSub, Nat.reducePow, Nat.sub_zero, Nat.sub_self, Nat.mul_zero, Nat.pow_zero]
  omega
structure ParsedP (bs : List Nat) (n size : Nat) : Prop where
 len : 20 ≤ bs.length
 sign : subB bs 0 4 = [67, 65, 76, 49]
 nought : readTo bs 11 4 = 0
 last : bs.getD 15 0 = 0
 lo : 24 ≤ size
 hi : size ≤ 96
 many : n ≤ 64
 all : readTo bs 4 4 = bs.length
 room : 20 + n * 64 ≤ bs.length
 sum : crcZ (bs.take (16 + n * 64)) = (readTo bs (16 + n * 64) 4 : Nat)
 dir : dirTo bs n = true
 up : upZ (atTo size (dirZ bs n) n) 64 = bs.length
 mix : mixTo size (dirZ bs n) n = dirZ bs n
theorem ParsedP.low {bs : List Nat} {n size : Nat} (h : ParsedP bs n size) (hb : Byt bs) (hn : cntZ bs = n) (hs : sizeZ bs = size) {i : Nat} (hi : i < 16) : layG (headW bs.length n size) i 0 = bs.getD i 0 := by
 have hz := h.nought
 have hz : (((0 * 256 + bs.getD (11 + 0) 0) * 256 + bs.getD (11 + 1) 0) * 256 + bs.getD (11 + 2) 0) * 256 + bs.getD (11 + 3) 0 = 0 := hz
 simp only [Nat.reduceAdd, Nat.add_zero] at hz
 have hl := h.last
 by_cases c0 : i < 4
 ·have hg := h.sign
  have h2 : (subB bs 0 4)[i]? = some (bs.getD (0 + i) 0) := subB_get (by omega)
  rw [hg, Nat.zero_add] at h2
  unfold headW
  simp only [layG]
  iterate 3 rw [if_neg (by simp only [numB_len, List.length_cons, List.length_nil]; omega)]
  rw [if_pos (by simp only [List.length_cons, List.length_nil]; omega), List.getD_eq_getElem?_getD, Nat.sub_zero, h2]
  rfl
 by_cases c1 : i < 8
 ·have := num4_read hb 4 (j := i - 4) (by omega)
  rw [h.all, show 4 + (i - 4) = i by omega] at this
  unfold headW
  simp only [layG]
  iterate 2 rw [if_neg (by simp only [numB_len, List.length_cons, List.length_nil]; omega)]
  rw [if_pos (by rw [numB_len]; omega), this]
 by_cases c2 : i < 10
 ·have := num2_read hb 8 (j := i - 8) (by omega)
  unfold cntZ at hn
  rw [hn, show 8 + (i - 8) = i by omega] at this
  unfold headW
  simp only [layG]
  rw [if_neg (by simp only [List.length_cons, List.length_nil]; omega)]
  rw [if_pos (by rw [numB_len]; omega), this]
 by_cases c3 : i = 10
 ·subst c3
  unfold headW
  simp only [layG]
  rw [if_pos (by simp only [List.length_cons, List.length_nil]; omega)]
  exact hs.symm
 ·unfold headW
  simp only [layG]
  iterate 4 rw [if_neg (by simp only [numB_len, List.length_cons, List.length_nil]; omega)]
  rcases (show i = 11 ∨ i = 12 ∨ i = 13 ∨ i = 14 ∨ i = 15 by omega) with rfl | rfl | rfl | rfl | rfl
  all_goals omega
end Go.Proofs.YtgcfkblmnpnogaaGreatDoor
namespace Go.Proofs.YtgcfkblmnpnogaaGreatDoor
open Go.RowKit Go.Lib
def lawFs (size : Nat) (PM : List MetaV) (FR : List (List Nat)) : Nat → List (Nat × List Nat)
 | 0 => []
 | m + 1 => lawFs size PM FR m ++ match PM[m]? with
  | some x => lawF size x FR (kTo PM FR.length m) (framesN x).toNat
  | none => []
theorem mem_lawF {size : Nat} {x : MetaV} {FR : List (List Nat)} {k : Nat} {p : Nat × List Nat} : ∀ n, p ∈ lawF size x FR k n ↔ ∃ j f, j < n ∧ FR[k + j]? = some f ∧ (p = (x.sums.toNat + 4 * j, numB 4 (crcZ f).toNat) ∨ p = (x.first.toNat + size * j, f))
 | 0 => by simp [lawF]
 | n + 1 => by
  unfold lawF
  rw [List.mem_append, mem_lawF n]
  constructor
  ·rintro (⟨j, f, h1, h2, h3⟩ | h)
   ·exact ⟨j, f, by omega, h2, h3⟩
   ·cases hf : FR[k + n]? with
    | none => rw [hf] at h; simp at h
    | some f =>
     rw [hf] at h
     simp only [List.mem_cons, List.not_mem_nil, or_false] at h
     exact ⟨n, f, by omega, hf, h⟩
  ·rintro ⟨j, f, h1, h2, h3⟩
   by_cases hj : j = n
   ·subst hj
    rw [h2]
    refine .inr ?_
    simp only [List.mem_cons, List.not_mem_nil, or_false]
    exact h3
   ·exact .inl ⟨j, f, by omega, h2, h3⟩
theorem mem_lawFs {size : Nat} {PM : List MetaV} {FR : List (List Nat)} {p : Nat × List Nat} : ∀ m, p ∈ lawFs size PM FR m ↔ ∃ i x, i < m ∧ PM[i]? = some x ∧ p ∈ lawF size x FR (kTo PM FR.length i) (framesN x).toNat
 | 0 => by simp [lawFs]
 | m + 1 => by
  unfold lawFs
  rw [List.mem_append, mem_lawFs m]
  constructor
  ·rintro (⟨i, x, h1, h2, h3⟩ | h)
   ·exact ⟨i, x, by omega, h2, h3⟩
   ·cases hx : PM[m]? with
    | none => rw [hx] at h; simp at h
    | some x => rw [hx] at h; exact ⟨m, x, by omega, hx, h⟩
  ·rintro ⟨i, x, h1, h2, h3⟩
   by_cases hi : i = m
   ·subst hi
    rw [h2]
    exact .inr h3
   ·exact .inl ⟨i, x, by omega, h2, h3⟩
theorem lawTo_low {size : Nat} {PM : List MetaV} {FR : List (List Nat)} {i : Nat} (v : Nat) : ∀ m, FarW i (lawFs size PM FR m) → layG (lawTo size PM FR m) i v = layG (entsTo PM m) i v
 | 0, _ => rfl
 | m + 1, hf => by
  have ih := lawTo_low v m (fun p hp => hf p (List.mem_append_left _ hp))
  cases h : PM[m]? with
  | none =>
   show layG (lawTo size PM FR m ++ (match PM[m]? with | some x => _ | none => _)) i v = layG (entsTo PM m ++ (match PM[m]? with | some x => _ | none => _)) i v
   rw [h, List.append_nil, List.append_nil, ih]
  | some x =>
   rw [lawTo_succ h, entsTo_succ h, layG_app, layG_app, layG_app, ih, Nat.mul_comm 64, layG_far (l := lawF size x FR (kTo PM FR.length m) (framesN x).toNat)]
   intro p hp
   refine hf p (List.mem_append_right _ ?_)
   rw [h]
   exact hp
theorem lawTo_high {size : Nat} {PM : List MetaV} {FR : List (List Nat)} {i : Nat} (v : Nat) (hL : ∀ x ∈ PM, x.name.size ≤ 32) : ∀ m, 16 + 64 * m ≤ i → layG (lawTo size PM FR m) i v = layG (lawFs size PM FR m) i v
 | 0, _ => rfl
 | m + 1, hi => by
  have ih := lawTo_high (size := size) (FR := FR) (i := i) v hL m (by omega)
  cases h : PM[m]? with
  | none =>
   show layG (lawTo size PM FR m ++ (match PM[m]? with | some x => _ | none => _)) i v = layG (lawFs size PM FR m ++ (match PM[m]? with | some x => _ | none => _)) i v
   rw [h, List.append_nil, List.append_nil, ih]
  | some x =>
   have e : lawFs size PM FR (m + 1) = lawFs size PM FR m ++ lawF size x FR (kTo PM FR.length m) (framesN x).toNat := by
    show lawFs size PM FR m ++ (match PM[m]? with | some x => _ | none => _) = _
    rw [h]
   rw [lawTo_succ h, e, layG_app, layG_app, layG_app, ih, entW_far (o := 16 + 64 * m) (i := i) (hL x (List.mem_of_getElem? h)) (by omega)]
theorem lawTo_fits {size N : Nat} {PM : List MetaV} {FR : List (List Nat)} (hL : ∀ x ∈ PM, x.name.size ≤ 32) : ∀ m, 16 + 64 * m ≤ N → FitsW N (lawFs size PM FR m) → FitsW N (lawTo size PM FR m)
 | 0, _, _ => fun p hp => by simp [lawTo] at hp
 | m + 1, h1, h2 => fun p hp => by
  have ih := lawTo_fits hL m (by omega) (fun q hq => h2 q (List.mem_append_left _ hq))
  cases h : PM[m]? with
  | none =>
   have hp' : p ∈ lawTo size PM FR m ++ (match PM[m]? with | some x => _ | none => _) := hp
   rw [h, List.append_nil] at hp'
   exact ih p hp'
  | some x =>
   rw [lawTo_succ h] at hp
   rcases List.mem_append.1 hp with hp | hp
   ·exact ih p hp
   ·rcases List.mem_append.1 hp with hp | hp
    ·exact entryW_fits (hL x (List.mem_of_getElem? h)) (by omega) p hp
    ·refine h2 p (List.mem_append_right _ ?_)
     rw [h]
     exact hp
section
variable {size : Nat} {SS : List SampV}
theorem framesN_dir {m : Nat} {s : SampV} (hs : SS[m]? = some s) {x : MetaV} (hx : (packDir size SS)[m]? = some x) : (framesN x).toNat = countN (len0 s.rows) * s.rows.length := by
 rw [packDir_get hs] at hx
 injection hx with hx
 subst hx
 rw [plc_frames, framesN_nat, Int.toNat_natCast]
theorem kTo_frames (size : Nat) (SS : List SampV) : ∀ m, m ≤ SS.length → kTo (packDir size SS) (frTo size SS SS.length).length m = (frTo size SS m).length
 | 0, _ => rfl
 | m + 1, hm => by
  obtain ⟨s, hs⟩ : ∃ s, SS[m]? = some s := ⟨_, List.getElem?_eq_getElem (by omega)⟩
  obtain ⟨x, hx⟩ : ∃ x, (packDir size SS)[m]? = some x := ⟨_, packDir_get hs⟩
  have ih := kTo_frames size SS m (by omega)
  have hmo := frTo_mono size SS hm
  rw [frTo_succ hs, List.length_append, frS_len] at hmo
  rw [kTo_succ hx, ih, framesN_dir hs hx, frTo_succ hs, List.length_append, frS_len]
  omega
theorem CanP.frAt_eq (h : CanP size SS) {m : Nat} {s : SampV} (hs : SS[m]? = some s) {q : Nat} (hq : q < countN (len0 s.rows) * s.rows.length) :
  ∃ d x, q % s.rows.length < s.rows.length ∧ s.rows[q % s.rows.length]? = some d ∧ q / s.rows.length < countN d.length ∧ (framesZ d size)[q / s.rows.length]? = some x ∧ frAt size s q = frameBytes x size := by
 have hfine := h.fine s (List.mem_of_getElem? hs)
 have hR : 0 < s.rows.length := by
  rcases Nat.eq_zero_or_pos s.rows.length with h0 | h0
  ·rw [h0, Nat.mul_zero] at hq; omega
  ·exact h0
 have hk := Nat.mod_lt q hR
 have hi : q / s.rows.length < countN (len0 s.rows) := Nat.div_lt_of_lt_mul (by rwa [Nat.mul_comm] at hq)
 obtain ⟨d, hd⟩ : ∃ d, s.rows[q % s.rows.length]? = some d := ⟨_, List.getElem?_eq_getElem hk⟩
 have hdl := hfine.same d (List.mem_of_getElem? hd)
 obtain ⟨x, hx⟩ : ∃ x, (framesZ d size)[q / s.rows.length]? = some x := ⟨_, List.getElem?_eq_getElem (by rw [framesZ_len, hdl]; exact hi)⟩
 refine ⟨d, x, hk, hd, by rw [hdl]; exact hi, hx, ?_⟩
 unfold frAt
 rw [hd]
 simp only
 rw [hx]
theorem CanP.frames_mem (h : CanP size SS) (p : Nat × List Nat) : p ∈ packTo size SS (packDir size SS) SS.length ↔ p ∈ lawFs size (packDir size SS) (frTo size SS SS.length) SS.length := by
 rw [mem_lawFs]
 constructor
 ·intro hp
  obtain ⟨m, s, x, hm, hs, hx, hl⟩ := mem_packTo _ hp
  obtain ⟨F, S, cnt, R, A, B, hpl⟩ := h.place hs
  refine ⟨m, x, hm, hx, ?_⟩
  rw [mem_lawF, kTo_frames size SS m (by omega), framesN_dir hs hx]
  rw [(hpl.nat hx).1, (hpl.nat hx).2] at hl ⊢
  obtain ⟨k, i, d, y, hf⟩ := mem_layTo _ (Nat.le_refl _) hl
  obtain ⟨q, hq, q1, q2, hlen, he, l1, l2⟩ := hf.lies h hs hpl
  have hk := hf.hk
  have hqq : q < countN (len0 s.rows) * s.rows.length := by rw [hpl.hcnt, hpl.hR]; omega
  rw [← hpl.hR] at hq
  have hd1 : q / s.rows.length = i := by rw [hq, Nat.mul_comm, Nat.mul_add_div (by omega), Nat.div_eq_of_lt hk]; omega
  have hd2 : q % s.rows.length = k := by rw [hq, Nat.mul_comm, Nat.mul_add_mod, Nat.mod_eq_of_lt hk]
  obtain ⟨d', x', _, h2, _, h4, h5⟩ := h.frAt_eq hs hqq
  rw [hd2, hf.row] at h2
  injection h2 with h2
  subst h2
  rw [hd1, hf.fr] at h4
  injection h4 with h4
  subst h4
  refine ⟨q, frameBytes y size, hqq, by rw [frTo_get hs hqq, h5], ?_⟩
  rcases he with he | he
  ·exact .inr (by rw [he, Nat.mul_comm])
  ·exact .inl he
 ·rintro ⟨m, x, hm, hx, hp⟩
  obtain ⟨s, hs⟩ : ∃ s, SS[m]? = some s := ⟨_, List.getElem?_eq_getElem hm⟩
  obtain ⟨F, S, cnt, R, A, B, hpl⟩ := h.place hs
  rw [mem_lawF, kTo_frames size SS m (by omega), framesN_dir hs hx] at hp
  obtain ⟨q, f, hq, hf, he⟩ := hp
  obtain ⟨d, y, h1, h2, h3, h4, h5⟩ := h.frAt_eq hs hq
  rw [frTo_get hs hq, h5] at hf
  injection hf with hf
  subst hf
  refine packTo_mem hs hx ?_ _ hm
  refine layTo_mem (k := q % s.rows.length) (i := q / s.rows.length) (d := d) (x := y) ⟨h1, h2, h3, h4, ?_⟩ _ h1
  have hqe : q / s.rows.length * s.rows.length + q % s.rows.length = q := by rw [Nat.mul_comm]; exact Nat.div_add_mod q _
  rw [hqe]
  rcases he with he | he
  ·exact .inr he
  ·exact .inl (by rw [he, Nat.mul_comm])
theorem CanP.law_eq (h : CanP size SS) : lawZ size (packDir size SS) (frTo size SS SS.length) (packLen size SS) = packZ size SS := by
 have hdl := packDir_len size SS
 have hN := h.len_bd
 have hpf : FitsW (packLen size SS) (packTo size SS (packDir size SS) SS.length) := packTo_fits h.lo h.hi h.fine h.len_eq SS.length
 have hnm : ∀ x ∈ packDir size SS, x.name.size ≤ 32 := fun x hx => name_size (h.goodE x hx).1.name
 have hge : ∀ p ∈ packTo size SS (packDir size SS) SS.length, 20 + 64 * SS.length ≤ p.1 := fun p hp => by
  obtain ⟨m, s, x, hm, hs, hx, hl⟩ := mem_packTo _ hp
  obtain ⟨F, S, cnt, R, A, B, hpl⟩ := h.place hs
  rw [(hpl.nat hx).1, (hpl.nat hx).2] at hl
  obtain ⟨k, i, d, y, hf⟩ := mem_layTo _ (Nat.le_refl _) hl
  obtain ⟨q, hq, q1, q2, hlen, he, l1, l2⟩ := hf.lies h hs hpl
  have hbase := h.base m
  rw [hpl.ha, hpl.lo] at hbase
  omega
 have hlf : FitsW (packLen size SS) (lawFs size (packDir size SS) (frTo size SS SS.length) SS.length) := fun p hp => hpf p ((h.frames_mem p).2 hp)
 have hlg : ∀ p ∈ lawFs size (packDir size SS) (frTo size SS SS.length) SS.length, 20 + 64 * SS.length ≤ p.1 := fun p hp => hge p ((h.frames_mem p).2 hp)
 have hb : lawB size (packDir size SS) (frTo size SS SS.length) (packLen size SS) = lays (lays (List.replicate (packLen size SS) 0) (packTo size SS (packDir size SS) SS.length)) (headW (packLen size SS) SS.length size ++ entsTo (packDir size SS) SS.length) := by
  unfold lawB
  rw [hdl, ← lays_app]
  have f1 : FitsW (packLen size SS) (headW (packLen size SS) SS.length size ++ lawTo size (packDir size SS) (frTo size SS SS.length) SS.length) := fun p hp => by
   rcases List.mem_append.1 hp with hp | hp
   ·exact headW_fits (by omega) p hp
   ·exact lawTo_fits hnm SS.length (by omega) hlf p hp
  have f2 : FitsW (packLen size SS) (packTo size SS (packDir size SS) SS.length ++ (headW (packLen size SS) SS.length size ++ entsTo (packDir size SS) SS.length)) := fun p hp => by
   rcases List.mem_append.1 hp with hp | hp
   ·exact hpf p hp
   ·rcases List.mem_append.1 hp with hp | hp
    ·exact headW_fits (by omega) p hp
    ·exact entsTo_fits hnm SS.length (by omega) p hp
  have l0 : (List.replicate (packLen size SS) 0).length = packLen size SS := List.length_replicate
  have l1 := lays_len l0 f1
  have l2 := lays_len l0 f2
  refine List.ext_getElem (by rw [l1, l2]) fun i hi1 hi2 => ?_
  have g1 := lays_gd (i := i) (l := _) (bs := List.replicate (packLen size SS) 0) (by rw [l0]; exact f1)
  have g2 := lays_gd (i := i) (l := _) (bs := List.replicate (packLen size SS) 0) (by rw [l0]; exact f2)
  rw [List.getD_eq_getElem?_getD, List.getElem?_eq_getElem hi1, Option.getD_some] at g1
  rw [List.getD_eq_getElem?_getD, List.getElem?_eq_getElem hi2, Option.getD_some] at g2
  rw [g1, g2]
  generalize (List.replicate (packLen size SS) 0).getD i 0 = v
  rw [layG_app, layG_app, layG_app]
  by_cases hlow : i < 20 + 64 * SS.length
  ·rw [layG_far (l := packTo size SS (packDir size SS) SS.length) (fun p hp => .inl (by have := hge p hp; omega)), lawTo_low _ _ (fun p hp => .inl (by have := hlg p hp; omega))]
  ·have hh : FarW i (headW (packLen size SS) SS.length size) := fun p hp => .inr (by
    have := headW_fits (n := packLen size SS) (N := 16) (c := SS.length) (size := size) (by omega) p hp
    omega)
   have he : FarW i (entsTo (packDir size SS) SS.length) := fun p hp => .inr (by
    have := entsTo_fits hnm SS.length (Nat.le_refl _) p hp
    omega)
   rw [lawTo_high _ hnm _ (by omega), layG_far hh, layG_far he, layG_far hh]
   by_cases hc : ∃ p ∈ packTo size SS (packDir size SS) SS.length, p.1 ≤ i ∧ i < p.1 + p.2.length
   ·obtain ⟨p, hp, hpc⟩ := hc
    rw [layG_all (V := p.2.getD (i - p.1) 0) (fun p' hp' hc' => ?_) ⟨p, (h.frames_mem p).1 hp, hpc⟩, layG_all (V := p.2.getD (i - p.1) 0) (fun p' hp' hc' => ?_) ⟨p, hp, hpc⟩]
    ·rw [h.apart hp hp' hpc hc']
    ·rw [h.apart hp ((h.frames_mem p').2 hp') hpc hc']
   ·have far : FarW i (packTo size SS (packDir size SS) SS.length) := fun p hp => by
     have : ¬ (p.1 ≤ i ∧ i < p.1 + p.2.length) := fun hc' => hc ⟨p, hp, hc'⟩
     omega
    rw [layG_far (fun p hp => far p ((h.frames_mem p).2 hp)), layG_far far]
 have hlen : (lays (List.replicate (packLen size SS) 0) (packTo size SS (packDir size SS) SS.length)).length = packLen size SS := lays_len List.length_replicate hpf
 rw [packZ_eq]
 unfold lawZ withHead
 rw [hb, hdl, hlen, Nat.mul_comm 64]
end
end Go.Proofs.YtgcfkblmnpnogaaGreatDoor
namespace Go.Proofs.YtgcfkblmnpnogaaGreatDoor
open Go.RowKit Go.Lib
theorem atTo_ge20 {size : Int} {L : List MetaV} (hL : ∀ x ∈ L, GenM x) (h1 : 24 ≤ size) (m : Nat) : 20 + 64 * (L.length : Int) ≤ atTo size L m := by
 have := genTo_mono (size := size) (by omega) hL (Nat.zero_le m)
 have e : atTo size L 0 = 16 + (L.length : Int) * 64 + 4 := rfl
 omega
end Go.Proofs.YtgcfkblmnpnogaaGreatDoor
namespace Go.Proofs.YtgcfkblmnpnogaaGreatDoor
open Go.RowKit Go.Lib
def kOf (D : List MetaV) : Nat → Nat
 | 0 => 0
 | m + 1 => kOf D m + match D[m]? with
  | some x => (framesN x).toNat
  | none => 0
theorem kOf_succ {D : List MetaV} {m : Nat} {x : MetaV} (h : D[m]? = some x) : kOf D (m + 1) = kOf D m + (framesN x).toNat := by
 show kOf D m + (match D[m]? with | some x => (framesN x).toNat | none => 0) = _
 rw [h]
theorem kOf_mono (D : List MetaV) {m n : Nat} (h : m ≤ n) : kOf D m ≤ kOf D n := by
 induction n with
 | zero =>
  have : m = 0 := by omega
  subst this; exact Nat.le_refl _
 | succ n ih =>
  by_cases hm : m = n + 1
  ·subst hm; exact Nat.le_refl _
  ·exact Nat.le_trans (ih (by omega)) (Nat.le_add_right _ _)
theorem kOf_congr {L M : List MetaV} (hl : L.length = M.length) (h : ∀ (i : Nat) x y, L[i]? = some x → M[i]? = some y → framesN x = framesN y) : ∀ m, kOf L m = kOf M m
 | 0 => rfl
 | m + 1 => by
  have ih := kOf_congr hl h m
  by_cases hm : m < L.length
  ·obtain ⟨x, hx⟩ : ∃ x, L[m]? = some x := ⟨_, List.getElem?_eq_getElem hm⟩
   obtain ⟨y, hy⟩ : ∃ y, M[m]? = some y := ⟨_, List.getElem?_eq_getElem (by omega)⟩
   rw [kOf_succ hx, kOf_succ hy, ih, h m x y hx hy]
  ·show kOf L m + (match L[m]? with | some x => (framesN x).toNat | none => 0) = kOf M m + (match M[m]? with | some x => (framesN x).toNat | none => 0)
   rw [List.getElem?_eq_none (by omega), List.getElem?_eq_none (by omega), ih]
theorem mix_frames (size : Int) (D : List MetaV) (n : Nat) : ∀ (i : Nat) x y, (mixTo size D n)[i]? = some x → D[i]? = some y → framesN x = framesN y := fun i x y h2 h3 => by
 rw [mixTo_get h3] at h2
 split at h2
 ·injection h2 with h2; rw [← h2]; rfl
 ·injection h2 with h2; rw [h2]
theorem kOf_mix (size : Int) (D : List MetaV) (n m : Nat) : kOf (mixTo size D n) m = kOf D m := kOf_congr (mixTo_len size D n) (mix_frames size D n) m
def bldF (size : Nat) (x : MetaV) (FR : List (List Nat)) (k : Nat) : Nat → List (Nat × List Nat)
 | 0 => []
 | n + 1 => bldF size x FR k n ++ match FR[k + n]? with
  | some f => [(x.first.toNat + n * size, f), (x.sums.toNat + 4 * n, numB 4 (crcZ f).toNat)]
  | none => []
def bldFs (size : Nat) (PM : List MetaV) (FR : List (List Nat)) : Nat → List (Nat × List Nat)
 | 0 => []
 | m + 1 => bldFs size PM FR m ++ match PM[m]? with
  | some x => bldF size x FR (kOf PM m) (framesN x).toNat
  | none => []
theorem bldF_succ {size : Nat} {x : MetaV} {FR : List (List Nat)} {k n : Nat} {f : List Nat} (h : FR[k + n]? = some f) : bldF size x FR k (n + 1) = bldF size x FR k n ++ [(x.first.toNat + n * size, f), (x.sums.toNat + 4 * n, numB 4 (crcZ f).toNat)] := by
 show bldF size x FR k n ++ (match FR[k + n]? with | some f => _ | none => _) = _
 rw [h]
theorem bldFs_succ {size : Nat} {PM : List MetaV} {FR : List (List Nat)} {m : Nat} {x : MetaV} (h : PM[m]? = some x) : bldFs size PM FR (m + 1) = bldFs size PM FR m ++ bldF size x FR (kOf PM m) (framesN x).toNat := by
 show bldFs size PM FR m ++ (match PM[m]? with | some x => _ | none => _) = _
 rw [h]
theorem mem_bldF {size : Nat} {x : MetaV} {FR : List (List Nat)} {k : Nat} {p : Nat × List Nat} : ∀ n, p ∈ bldF size x FR k n ↔ ∃ j f, j < n ∧ FR[k + j]? = some f ∧ (p = (x.sums.toNat + 4 * j, numB 4 (crcZ f).toNat) ∨ p = (x.first.toNat + size * j, f))
 | 0 => by simp [bldF]
 | n + 1 => by
  unfold bldF
  rw [List.mem_append, mem_bldF n]
  constructor
  ·rintro (⟨j, f, h1, h2, h3⟩ | h)
   ·exact ⟨j, f, by omega, h2, h3⟩
   ·cases hf : FR[k + n]? with
    | none => rw [hf] at h; simp at h
    | some f =>
     rw [hf] at h
     simp only [List.mem_cons, List.not_mem_nil, or_false] at h
     refine ⟨n, f, by omega, hf, ?_⟩
     rw [Nat.mul_comm size]
     exact h.symm
  ·rintro ⟨j, f, h1, h2, h3⟩
   by_cases hj : j = n
   ·subst hj
    rw [h2]
    refine .inr ?_
    simp only [List.mem_cons, List.not_mem_nil, or_false]
    rw [Nat.mul_comm size] at h3
    exact h3.symm
   ·exact .inl ⟨j, f, by omega, h2, h3⟩
theorem mem_bldFs {size : Nat} {PM : List MetaV} {FR : List (List Nat)} {p : Nat × List Nat} : ∀ m, p ∈ bldFs size PM FR m ↔ ∃ i x, i < m ∧ PM[i]? = some x ∧ p ∈ bldF size x FR (kOf PM i) (framesN x).toNat
 | 0 => by simp [bldFs]
 | m + 1 => by
  unfold bldFs
  rw [List.mem_append, mem_bldFs m]
  constructor
  ·rintro (⟨i, x, h1, h2, h3⟩ | h)
   ·exact ⟨i, x, by omega, h2, h3⟩
   ·cases hx : PM[m]? with
    | none => rw [hx] at h; simp at h
    | some x => rw [hx] at h; exact ⟨m, x, by omega, hx, h⟩
  ·rintro ⟨i, x, h1, h2, h3⟩
   by_cases hi : i = m
   ·subst hi
    rw [h2]
    exact .inr h3
   ·exact .inl ⟨i, x, by omega, h2, h3⟩
def bldN (size : Nat) (D : List MetaV) : Nat := (upZ (atTo size D D.length) 64).toNat
def bldDir (size : Nat) (D : List MetaV) : List MetaV := mixTo size D D.length
def bldZ (size : Nat) (D : List MetaV) (FR : List (List Nat)) : List Nat := withHead (lays (List.replicate (bldN size D) 0) (bldFs size (bldDir size D) FR D.length)) (bldDir size D) size
structure CanB (size : Nat) (D : List MetaV) (FR : List (List Nat)) : Prop where
 lo : 24 ≤ size
 hi : size ≤ 96
 many : D.length ≤ 64
 right : ∀ x ∈ D, x.right = true
 asc : ∀ m x y, D[m]? = some x → D[m + 1]? = some y → nameLt x.name y.name = true
 cnt : kOf D D.length = FR.length
 len : ∀ f ∈ FR, f.length = size
 byt : ∀ f ∈ FR, Byt f
 long : upZ (atTo size D D.length) 64 ≤ 4000000
section
variable {size : Nat} {D : List MetaV} {FR : List (List Nat)}
theorem bldDir_len (size : Nat) (D : List MetaV) : (bldDir size D).length = D.length := mixTo_len _ _ _
theorem bldDir_get {m : Nat} {x : MetaV} (hx : D[m]? = some x) : (bldDir size D)[m]? = some (plc size D m x) := by
 unfold bldDir
 rw [mixTo_get hx, if_pos (List.getElem?_eq_some_iff.1 hx).1]
theorem bldDir_mem {x : MetaV} (hx : x ∈ bldDir size D) : ∃ m y, D[m]? = some y ∧ x = plc size D m y := by
 obtain ⟨m, hm, rfl⟩ := List.mem_iff_getElem.1 hx
 rw [bldDir_len] at hm
 refine ⟨m, D[m], List.getElem?_eq_getElem hm, ?_⟩
 have h1 := bldDir_get (size := size) (List.getElem?_eq_getElem hm)
 rw [List.getElem?_eq_getElem (by rw [bldDir_len]; exact hm)] at h1
 exact Option.some.inj h1
theorem CanB.gen (h : CanB size D FR) : ∀ x ∈ D, GenM x := fun x hx => genM_right (h.right x hx)
theorem CanB.bd (h : CanB size D FR) (m : Nat) (hm : m ≤ D.length) : 0 ≤ atTo size D m ∧ atTo size D m ≤ 4000000 := by
 have h1 := genTo_bd (size := (size : Int)) (by have := h.lo; omega) (by have := h.hi; omega) h.gen h.many m
 have h2 := genTo_mono (size := (size : Int)) (by have := h.lo; omega) h.gen hm
 have h3 := upZ64_ge (atTo size D D.length)
 have h4 := h.long
 omega
theorem CanB.len_eq (h : CanB size D FR) : (bldN size D : Int) = upZ (atTo size D D.length) 64 := by
 unfold bldN
 have hb := h.bd D.length (Nat.le_refl _)
 have hu := upZ64_ge (atTo size D D.length)
 rw [Int.toNat_of_nonneg (by omega)]
theorem CanB.base (h : CanB size D FR) (m : Nat) : 20 + 64 * (D.length : Int) ≤ atTo size D m := atTo_ge20 h.gen (by have := h.lo; omega) m
theorem CanB.len_bd (h : CanB size D FR) : 20 + D.length * 64 ≤ bldN size D ∧ bldN size D ≤ 4000000 := by
 have he := h.len_eq
 have h0 := h.base D.length
 have hu := upZ64_ge (atTo size D D.length)
 have := h.long
 omega
theorem bld_at (size : Nat) (D : List MetaV) (m : Nat) : atTo (size : Int) (bldDir size D) m = atTo size D m := atTo_congr (bldDir_len _ _) (mix_frames _ _ _) m
structure EPlace (size : Nat) (D : List MetaV) (m : Nat) (x : MetaV) (F S T A B : Nat) : Prop where
 fst : x.first = F
 sum : x.sums = S
 num : framesN x = T
 ha : atTo size D m = A
 hb : atTo size D (m + 1) = B
 lo : A = S
 mid : S + 4 * T ≤ F
 up : F + size * T = B
theorem CanB.place (h : CanB size D FR) {m : Nat} {x : MetaV} (hx : (bldDir size D)[m]? = some x) : ∃ F S T A B, EPlace size D m x F S T A B := by
 have hm := (List.getElem?_eq_some_iff.1 hx).1
 rw [bldDir_len] at hm
 obtain ⟨y, hy⟩ : ∃ y, D[m]? = some y := ⟨_, List.getElem?_eq_getElem hm⟩
 rw [bldDir_get hy] at hx
 injection hx with hx
 have hb := h.bd m (by omega)
 have hb2 := h.bd (m + 1) (by omega)
 have hsu := atTo_succ (size := (size : Int)) hy
 have hfr := (h.gen y (List.mem_of_getElem? hy)).fr
 have hge := upZ16_ge (atTo size D m + 4 * framesN y)
 obtain ⟨A, hA⟩ := Int.eq_ofNat_of_zero_le hb.1
 obtain ⟨B, hB⟩ := Int.eq_ofNat_of_zero_le hb2.1
 obtain ⟨T, hT⟩ := Int.eq_ofNat_of_zero_le hfr.1
 obtain ⟨F, hF⟩ := Int.eq_ofNat_of_zero_le (show 0 ≤ upZ (atTo size D m + 4 * framesN y) 16 by omega)
 have e1 : (size : Int) * (T : Int) = ((size * T : Nat) : Int) := by push_cast; rfl
 have hx1 : x.first = F := by rw [← hx, ← hF]; rfl
 have hx2 : x.sums = A := by rw [← hx, ← hA]; rfl
 have hx3 : framesN x = T := by rw [← hx, ← hT]; rfl
 rw [hF, hT, e1, hB] at hsu
 rw [hF, hA, hT] at hge
 exact ⟨F, A, T, A, B, hx1, hx2, hx3, hA, hB, rfl, by omega, by omega⟩
structure FWr (F S size : Nat) (p : Nat × List Nat) (j : Nat) (f : List Nat) : Prop where
 len : f.length = size
 eq : p = (S + 4 * j, numB 4 (crcZ f).toNat) ∨ p = (F + size * j, f)
theorem FWr.lies {m F S T A B : Nat} {x : MetaV} (hp : EPlace size D m x F S T A B) {p : Nat × List Nat} {j : Nat} {f : List Nat} (hf : FWr F S size p j f) (hj : j < T) : size * j + size ≤ size * T ∧ S ≤ p.1 ∧ p.1 + p.2.length ≤ B := by
 have hqs : size * j + size ≤ size * T := by
  have := Nat.mul_le_mul_left size (show j + 1 ≤ T by omega)
  rwa [Nat.mul_succ] at this
 have h1 := hp.mid
 have h2 := hp.up
 refine ⟨hqs, ?_⟩
 generalize size * T = Q at *
 rcases hf.eq with rfl | rfl
 ·rw [numB_len]
  show S ≤ S + 4 * j ∧ S + 4 * j + 4 ≤ B
  omega
 ·rw [hf.len]
  show S ≤ F + size * j ∧ F + size * j + size ≤ B
  generalize size * j = P at *
  omega
theorem CanB.mem (h : CanB size D FR) {p : Nat × List Nat} (hp : p ∈ bldFs size (bldDir size D) FR D.length) :
  ∃ m x F S T A B j f, (bldDir size D)[m]? = some x ∧ EPlace size D m x F S T A B ∧ j < T ∧ FR[kOf D m + j]? = some f ∧ FWr F S size p j f := by
 obtain ⟨m, x, hm, hx, hb⟩ := (mem_bldFs _).1 hp
 obtain ⟨F, S, T, A, B, hpl⟩ := h.place hx
 obtain ⟨j, f, hj, hf, he⟩ := (mem_bldF _).1 hb
 have hk : kOf (bldDir size D) m = kOf D m := kOf_mix _ _ _ _
 rw [hk] at hf
 rw [hpl.num, Int.toNat_natCast] at hj
 rw [hpl.fst, hpl.sum, Int.toNat_natCast, Int.toNat_natCast] at he
 exact ⟨m, x, F, S, T, A, B, j, f, hx, hpl, hj, hf, h.len f (List.mem_of_getElem? hf), he⟩
theorem CanB.fits (h : CanB size D FR) : FitsW (bldN size D) (bldFs size (bldDir size D) FR D.length) ∧ ∀ p ∈ bldFs size (bldDir size D) FR D.length, 20 + 64 * D.length ≤ p.1 := by
 have key : ∀ p ∈ bldFs size (bldDir size D) FR D.length, p.1 + p.2.length ≤ bldN size D ∧ 20 + 64 * D.length ≤ p.1 := fun p hp => by
  obtain ⟨m, x, F, S, T, A, B, j, f, hx, hpl, hj, hf, hw⟩ := h.mem hp
  obtain ⟨_, l1, l2⟩ := hw.lies hpl hj
  have hm := (List.getElem?_eq_some_iff.1 hx).1
  rw [bldDir_len] at hm
  have hmo := genTo_mono (size := (size : Int)) (by have := h.lo; omega) h.gen (show m + 1 ≤ D.length by omega)
  have hu := upZ64_ge (atTo size D D.length)
  have hle := h.len_eq
  have hba := h.base m
  rw [hpl.hb] at hmo
  rw [hpl.ha, hpl.lo] at hba
  omega
 exact ⟨fun p hp => (key p hp).1, fun p hp => (key p hp).2⟩
theorem CanB.apart (h : CanB size D FR) {p p' : Nat × List Nat} (hp : p ∈ bldFs size (bldDir size D) FR D.length) (hp' : p' ∈ bldFs size (bldDir size D) FR D.length) {i : Nat}
  (c1 : p.1 ≤ i ∧ i < p.1 + p.2.length) (c2 : p'.1 ≤ i ∧ i < p'.1 + p'.2.length) : p = p' := by
 obtain ⟨m, x, F, S, T, A, B, j, f, hx, hpl, hj, hf, hw⟩ := h.mem hp
 obtain ⟨m', x', F', S', T', A', B', j', f', hx', hpl', hj', hf', hw'⟩ := h.mem hp'
 obtain ⟨q1, l1, l2⟩ := hw.lies hpl hj
 obtain ⟨q1', l1', l2'⟩ := hw'.lies hpl' hj'
 have hmono := fun (a b : Nat) (hab : a ≤ b) => genTo_mono (size := (size : Int)) (by have := h.lo; omega) h.gen hab
 have hlo := h.lo
 rcases Nat.lt_trichotomy m m' with hlt | heq | hgt
 ·have := hmono (m + 1) m' hlt
  rw [hpl.hb, hpl'.ha, hpl'.lo] at this
  omega
 ·subst heq
  rw [hx] at hx'
  injection hx' with hx'
  subst hx'
  have e1 : F = F' := Int.ofNat_inj.1 (hpl.fst.symm.trans hpl'.fst)
  have e2 : S = S' := Int.ofNat_inj.1 (hpl.sum.symm.trans hpl'.sum)
  have e3 : T = T' := Int.ofNat_inj.1 (hpl.num.symm.trans hpl'.num)
  subst e1 e2 e3
  have hmid := hpl.mid
  rcases hw.eq with he | he <;> rcases hw'.eq with he' | he'
  ·rw [he, numB_len] at c1
   rw [he', numB_len] at c2
   simp only at c1 c2
   have e : j = j' := by omega
   subst e
   rw [hf] at hf'
   injection hf' with hf'
   subst hf'
   rw [he, he']
  ·rw [he, numB_len] at c1
   rw [he', hw'.len] at c2
   simp only at c1 c2
   generalize size * j' = P at *
   omega
  ·rw [he, hw.len] at c1
   rw [he', numB_len] at c2
   simp only at c1 c2
   generalize size * j = P at *
   omega
  ·rw [he, hw.len] at c1
   rw [he', hw'.len] at c2
   simp only at c1 c2
   have k1 : (i - F) / size = j := by
    rw [Nat.div_eq_iff (by omega), Nat.mul_comm j]
    constructor <;> omega
   have k2 : (i - F) / size = j' := by
    rw [Nat.div_eq_iff (by omega), Nat.mul_comm j']
    constructor <;> omega
   have e : j = j' := by omega
   subst e
   rw [hf] at hf'
   injection hf' with hf'
   subst hf'
   rw [he, he']
 ·have := hmono (m' + 1) m hgt
  rw [hpl'.hb, hpl.ha, hpl.lo] at this
  omega
theorem CanB.goodE (h : CanB size D FR) : ∀ x ∈ bldDir size D, GoodE x ∧ x.right = true := fun x hx => by
 obtain ⟨m, y, hy, he⟩ := bldDir_mem hx
 have hm := (List.getElem?_eq_some_iff.1 hy).1
 have hr : x.right = true := by rw [he]; exact h.right y (List.mem_of_getElem? hy)
 obtain ⟨F, S, T, A, B, hpl⟩ := h.place (by rw [he]; exact bldDir_get hy : (bldDir size D)[m]? = some x)
 have hb := h.bd (m + 1) (by omega)
 have h1 := hpl.mid
 have h2 := hpl.up
 rw [hpl.hb] at hb
 refine ⟨goodE_of hr ?_ ?_, hr⟩
 ·rw [hpl.sum]; generalize size * T = Q at *; omega
 ·rw [hpl.fst]; generalize size * T = Q at *; omega
theorem CanB.head (h : CanB size D FR) : HeadIn (lays (List.replicate (bldN size D) 0) (bldFs size (bldDir size D) FR D.length)) (bldDir size D) size (bldN size D) D.length := by
 have hfit := h.fits
 have hbd := h.len_bd
 refine ⟨lays_len (by simp) hfit.1, bldDir_len size D, hbd.1, fun i hi => ?_, fun x hx => (h.goodE x hx).1⟩
 rw [lays_gd (by rw [List.length_replicate]; exact hfit.1)]
 have h0 : (List.replicate (bldN size D) 0).getD i 0 = 0 := by
  rw [List.getD_eq_getElem?_getD, List.getElem?_replicate]
  split <;> rfl
 rw [h0]
 exact layG_far fun p hp => .inl (by have := hfit.2 p hp; omega)
theorem bldZ_len (h : CanB size D FR) : (bldZ size D FR).length = bldN size D := h.head.out_len
theorem bldZ_size (h : CanB size D FR) : sizeZ (bldZ size D FR) = size := h.head.sizeZ_
theorem bldZ_cnt (h : CanB size D FR) : cntZ (bldZ size D FR) = D.length := h.head.cntZ_ h.many
theorem bldZ_dir (h : CanB size D FR) : dirZ (bldZ size D FR) D.length = bldDir size D := h.head.dirZ_
theorem bldZ_parse (h : CanB size D FR) : parseZ (bldZ size D FR) = 0 := by
 refine h.head.parse h.lo h.hi h.many (by have := h.len_bd; omega) (fun x hx => (h.goodE x hx).2) (fun m x y hx hy => ?_) (by rw [bld_at]; exact h.len_eq.symm) (mixTo_again (size : Int) D)
 have hm := (List.getElem?_eq_some_iff.1 hy).1
 rw [bldDir_len] at hm
 have hs1 : D[m]? = some D[m] := List.getElem?_eq_getElem (by omega)
 have hs2 : D[m + 1]? = some D[m + 1] := List.getElem?_eq_getElem hm
 rw [bldDir_get hs1] at hx
 rw [bldDir_get hs2] at hy
 injection hx with hx
 injection hy with hy
 rw [← hx, ← hy]
 have h5 := h.asc m _ _ hs1 hs2
 exact h5
theorem bldZ_byt (h : CanB size D FR) : Byt (bldZ size D FR) := by
 refine withHead_byt (lays_byt (fun x hx => by obtain ⟨_, rfl⟩ := List.mem_replicate.1 hx; omega) (fun p hp => ?_)) (fun x hx => (h.goodE x hx).1.ch.2) (by have := h.hi; omega)
 obtain ⟨m, x, F, S, T, A, B, j, f, hx, hpl, hj, hf, hw⟩ := h.mem hp
 rcases hw.eq with rfl | rfl
 ·exact numB_byt _ _
 ·exact h.byt f (List.mem_of_getElem? hf)
theorem CanB.fit (h : CanB size D FR) : FitB (bldZ size D FR) size (bldDir size D) := by
 have hl := h.len_bd
 have := fit_parsed (bldZ_parse h) (by rw [bldZ_len h]; omega) (bldZ_byt h)
 rw [bldZ_size h, bldZ_cnt h, bldZ_dir h] at this
 exact this
theorem CanB.frame_gd (h : CanB size D FR) {p : Nat × List Nat} (hp : p ∈ bldFs size (bldDir size D) FR D.length) {j : Nat} (hj : j < p.2.length) : (bldZ size D FR).getD (p.1 + j) 0 = p.2.getD j 0 := by
 have hfit := h.fits
 unfold bldZ
 rw [h.head.far (by have := hfit.2 p hp; omega), lays_gd (by rw [List.length_replicate]; exact hfit.1)]
 refine layG_all (fun p' hp' hc => ?_) ⟨p, hp, by omega, by omega⟩
 have := h.apart hp hp' (i := p.1 + j) (by omega) hc
 subst this
 congr 1
 omega
theorem CanB.frame_mem (h : CanB size D FR) {m j : Nat} {x : MetaV} {f : List Nat} (hx : (bldDir size D)[m]? = some x) (hj : (j : Int) < framesN x) (hf : FR[kOf D m + j]? = some f) :
  ∃ F S : Nat, x.first = F ∧ x.sums = S ∧ (S + 4 * j, numB 4 (crcZ f).toNat) ∈ bldFs size (bldDir size D) FR D.length ∧ (F + size * j, f) ∈ bldFs size (bldDir size D) FR D.length := by
 have hm := (List.getElem?_eq_some_iff.1 hx).1
 rw [bldDir_len] at hm
 obtain ⟨F, S, T, A, B, hpl⟩ := h.place hx
 have hk : kOf (bldDir size D) m = kOf D m := kOf_mix _ _ _ _
 have hjT : j < (framesN x).toNat := by omega
 have key : ∀ p, (p = (S + 4 * j, numB 4 (crcZ f).toNat) ∨ p = (F + size * j, f)) → p ∈ bldFs size (bldDir size D) FR D.length := fun p hp => by
  refine (mem_bldFs _).2 ⟨m, x, hm, hx, (mem_bldF _).2 ⟨j, f, hjT, by rw [hk]; exact hf, ?_⟩⟩
  rw [hpl.fst, hpl.sum, Int.toNat_natCast, Int.toNat_natCast]
  exact hp
 exact ⟨F, S, hpl.fst, hpl.sum, key _ (.inl rfl), key _ (.inr rfl)⟩
theorem CanB.frame_at (h : CanB size D FR) {m j : Nat} {x : MetaV} {f : List Nat} (hx : (bldDir size D)[m]? = some x) (hj : (j : Int) < framesN x) (hf : FR[kOf D m + j]? = some f) :
  subB (bldZ size D FR) (x.first + j * size).toNat size = f ∧ (readTo (bldZ size D FR) (x.sums + 4 * j).toNat 4 : Int) = crcZ f := by
 obtain ⟨F, S, e1, e2, m1, m2⟩ := h.frame_mem hx hj hf
 have hlen := h.len f (List.mem_of_getElem? hf)
 have k1 : (x.first + j * size).toNat = F + size * j := by
  rw [e1, show (F : Int) + (j : Int) * (size : Int) = ((F + size * j : Nat) : Int) by rw [Nat.mul_comm]; push_cast; rfl]
  rfl
 have k2 : (x.sums + 4 * j).toNat = S + 4 * j := by rw [e2]; omega
 rw [k1, k2]
 constructor
 ·refine List.ext_getElem? fun i => ?_
  by_cases hi : i < size
  ·rw [subB_get hi, h.frame_gd m2 (by rw [hlen]; exact hi), List.getD_eq_getElem?_getD, List.getElem?_eq_getElem (by rw [hlen]; exact hi)]
   rfl
  ·rw [List.getElem?_eq_none (by rw [subB_len]; omega), List.getElem?_eq_none (by omega)]
 ·have hb := crcZ_bd f
  have := readTo_num4 (X := bldZ size D FR) (a := S + 4 * j) (v := (crcZ f).toNat) (fun i hi => h.frame_gd m1 (by rw [numB_len]; exact hi)) (by omega)
  rw [this]
  omega
theorem CanB.kTo_eq (h : CanB size D FR) : ∀ m, m ≤ D.length → kTo (bldDir size D) FR.length m = kOf D m
 | 0, _ => rfl
 | m + 1, hm => by
  obtain ⟨y, hy⟩ : ∃ y, D[m]? = some y := ⟨_, List.getElem?_eq_getElem (by omega)⟩
  have ih := h.kTo_eq m (by omega)
  have hmo := kOf_mono D hm
  rw [h.cnt, kOf_succ hy] at hmo
  rw [kTo_succ (bldDir_get hy), ih, plc_frames, kOf_succ hy]
  omega
theorem CanB.frames_mem (h : CanB size D FR) (p : Nat × List Nat) : p ∈ bldFs size (bldDir size D) FR D.length ↔ p ∈ lawFs size (bldDir size D) FR D.length := by
 rw [mem_lawFs, mem_bldFs]
 have key : ∀ i x, i < D.length → (bldDir size D)[i]? = some x → (p ∈ bldF size x FR (kOf (bldDir size D) i) (framesN x).toNat ↔ p ∈ lawF size x FR (kTo (bldDir size D) FR.length i) (framesN x).toNat) := fun i x hi hx => by
  have hk : kOf (bldDir size D) i = kOf D i := kOf_mix _ _ _ _
  rw [mem_bldF, mem_lawF, hk, h.kTo_eq i (by omega)]
 constructor
 ·rintro ⟨i, x, hi, hx, hp⟩
  exact ⟨i, x, hi, hx, (key i x hi hx).1 hp⟩
 ·rintro ⟨i, x, hi, hx, hp⟩
  exact ⟨i, x, hi, hx, (key i x hi hx).2 hp⟩
theorem CanB.law_eq (h : CanB size D FR) : lawZ size (bldDir size D) FR (bldN size D) = bldZ size D FR := by
 have hdl := bldDir_len size D
 have hN := h.len_bd
 have hpf := h.fits.1
 have hge := h.fits.2
 have hnm : ∀ x ∈ bldDir size D, x.name.size ≤ 32 := fun x hx => name_size (h.goodE x hx).1.name
 have hlf : FitsW (bldN size D) (lawFs size (bldDir size D) FR D.length) := fun p hp => hpf p ((h.frames_mem p).2 hp)
 have hlg : ∀ p ∈ lawFs size (bldDir size D) FR D.length, 20 + 64 * D.length ≤ p.1 := fun p hp => hge p ((h.frames_mem p).2 hp)
 have hb : lawB size (bldDir size D) FR (bldN size D) = lays (lays (List.replicate (bldN size D) 0) (bldFs size (bldDir size D) FR D.length)) (headW (bldN size D) D.length size ++ entsTo (bldDir size D) D.length) := by
  unfold lawB
  rw [hdl, ← lays_app]
  have f1 : FitsW (bldN size D) (headW (bldN size D) D.length size ++ lawTo size (bldDir size D) FR D.length) := fun p hp => by
   rcases List.mem_append.1 hp with hp | hp
   ·exact headW_fits (by omega) p hp
   ·exact lawTo_fits hnm D.length (by omega) hlf p hp
  have f2 : FitsW (bldN size D) (bldFs size (bldDir size D) FR D.length ++ (headW (bldN size D) D.length size ++ entsTo (bldDir size D) D.length)) := fun p hp => by
   rcases List.mem_append.1 hp with hp | hp
   ·exact hpf p hp
   ·rcases List.mem_append.1 hp with hp | hp
    ·exact headW_fits (by omega) p hp
    ·exact entsTo_fits hnm D.length (by omega) p hp
  have l0 : (List.replicate (bldN size D) 0).length = bldN size D := List.length_replicate
  have l1 := lays_len l0 f1
  have l2 := lays_len l0 f2
  refine List.ext_getElem (by rw [l1, l2]) fun i hi1 hi2 => ?_
  have g1 := lays_gd (i := i) (l := _) (bs := List.replicate (bldN size D) 0) (by rw [l0]; exact f1)
  have g2 := lays_gd (i := i) (l := _) (bs := List.replicate (bldN size D) 0) (by rw [l0]; exact f2)
  rw [List.getD_eq_getElem?_getD, List.getElem?_eq_getElem hi1, Option.getD_some] at g1
  rw [List.getD_eq_getElem?_getD, List.getElem?_eq_getElem hi2, Option.getD_some] at g2
  rw [g1, g2]
  generalize (List.replicate (bldN size D) 0).getD i 0 = v
  rw [layG_app, layG_app, layG_app]
  by_cases hlow : i < 20 + 64 * D.length
  ·rw [layG_far (l := bldFs size (bldDir size D) FR D.length) (fun p hp => .inl (by have := hge p hp; omega)), lawTo_low _ _ (fun p hp => .inl (by have := hlg p hp; omega))]
  ·have hh : FarW i (headW (bldN size D) D.length size) := fun p hp => .inr (by
    have := headW_fits (n := bldN size D) (N := 16) (c := D.length) (size := size) (by omega) p hp
    omega)
   have he : FarW i (entsTo (bldDir size D) D.length) := fun p hp => .inr (by
    have := entsTo_fits hnm D.length (Nat.le_refl _) p hp
    omega)
   rw [lawTo_high _ hnm _ (by omega), layG_far hh, layG_far he, layG_far hh]
   by_cases hc : ∃ p ∈ bldFs size (bldDir size D) FR D.length, p.1 ≤ i ∧ i < p.1 + p.2.length
   ·obtain ⟨p, hp, hpc⟩ := hc
    rw [layG_all (V := p.2.getD (i - p.1) 0) (fun p' hp' hc' => ?_) ⟨p, (h.frames_mem p).1 hp, hpc⟩, layG_all (V := p.2.getD (i - p.1) 0) (fun p' hp' hc' => ?_) ⟨p, hp, hpc⟩]
    ·rw [h.apart hp hp' hpc hc']
    ·rw [h.apart hp ((h.frames_mem p').2 hp') hpc hc']
   ·have far : FarW i (bldFs size (bldDir size D) FR D.length) := fun p hp => by
     have : ¬ (p.1 ≤ i ∧ i < p.1 + p.2.length) := fun hc' => hc ⟨p, hp, hc'⟩
     omega
    rw [layG_far (fun p hp => far p ((h.frames_mem p).2 hp)), layG_far far]
 have hlen : (lays (List.replicate (bldN size D) 0) (bldFs size (bldDir size D) FR D.length)).length = bldN size D := lays_len List.length_replicate hpf
 unfold bldZ lawZ withHead
 rw [hb, hdl, hlen, Nat.mul_comm 64]
end
end Go.Proofs.YtgcfkblmnpnogaaGreatDoor
namespace Go.Proofs.YtgcfkblmnpnogaaGreatDoor
open Go.RowKit Go.Lib
def bldOk (D : List MetaV) : Nat → Bool
 | 0 => true
 | m + 1 => bldOk D m && match D[m]? with
  | some x => x.right && (decide (m = 0) || match D[m - 1]? with
   | some y => nameLt y.name x.name
   | none => false)
  | none => true
theorem bldOk_zero {D : List MetaV} {x : MetaV} (h : D[0]? = some x) : bldOk D 1 = x.right := by
 show (true && (match D[0]? with | some x => x.right && (decide (0 = 0) || match D[0 - 1]? with | some y => nameLt y.name x.name | none => false) | none => true)) = _
 rw [h]
 simp
theorem bldOk_succ {D : List MetaV} {m : Nat} {x y : MetaV} (hx : D[m + 1]? = some x) (hy : D[m]? = some y) : bldOk D (m + 2) = (bldOk D (m + 1) && (x.right && nameLt y.name x.name)) := by
 show (bldOk D (m + 1) && (match D[m + 1]? with | some x => x.right && (decide (m + 1 = 0) || match D[m + 1 - 1]? with | some y => nameLt y.name x.name | none => false) | none => true)) = _
 rw [hx, Nat.add_sub_cancel, hy]
 simp
theorem bldOk_le {D : List MetaV} {k : Nat} (h : bldOk D k = false) : ∀ c, k ≤ c → bldOk D c = false
 | 0, hc => by rw [show k = 0 by omega] at h; exact h
 | c + 1, hc => by
  by_cases hk : k = c + 1
  ·subst hk; exact h
  ·unfold bldOk
   rw [bldOk_le h c (by omega)]
   rfl
theorem bldOk_at {D : List MetaV} : ∀ n, bldOk D n = true → ∀ m x, m < n → D[m]? = some x → x.right = true ∧ ∀ y, 0 < m → D[m - 1]? = some y → nameLt y.name x.name = true
 | 0, _, m, x, hm, _ => by omega
 | n + 1, h, m, x, hm, hx => by
  by_cases hmn : m = n
  ·subst hmn
   unfold bldOk at h
   rw [hx] at h
   simp only [Bool.and_eq_true, Bool.or_eq_true, decide_eq_true_eq] at h
   refine ⟨h.2.1, fun y h0 hy => ?_⟩
   have := h.2.2
   rw [hy] at this
   rcases this with h1 | h1
   ·omega
   ·exact h1
  ·unfold bldOk at h
   rw [Bool.and_eq_true] at h
   exact bldOk_at n h.1 m x (by omega) hx
theorem bldOk_right {D : List MetaV} (h : bldOk D D.length = true) : ∀ x ∈ D, x.right = true := fun x hx => by
 obtain ⟨m, hm, rfl⟩ := List.mem_iff_getElem.1 hx
 exact (bldOk_at _ h m _ hm (List.getElem?_eq_getElem hm)).1
theorem bldOk_asc {D : List MetaV} (h : bldOk D D.length = true) : ∀ m x y, D[m]? = some x → D[m + 1]? = some y → nameLt x.name y.name = true := fun m x y hx hy =>
 (bldOk_at _ h (m + 1) y (List.getElem?_eq_some_iff.1 hy).1 hy).2 x (Nat.succ_pos _) hx
theorem bldOk_of {D : List MetaV} (h1 : ∀ x ∈ D, x.right = true) (h2 : ∀ m x y, D[m]? = some x → D[m + 1]? = some y → nameLt x.name y.name = true) : ∀ n, bldOk D n = true
 | 0 => rfl
 | n + 1 => by
  have ih := bldOk_of h1 h2 n
  unfold bldOk
  rw [ih]
  cases hx : D[n]? with
  | none => rfl
  | some x =>
   cases n with
   | zero => simp [h1 x (List.mem_of_getElem? hx)]
   | succ k =>
    have hk := (List.getElem?_eq_some_iff.1 hx).1
    obtain ⟨y, hy⟩ : ∃ y, D[k]? = some y := ⟨_, List.getElem?_eq_getElem (by omega)⟩
    simp only [Nat.add_sub_cancel, hy, h1 x (List.mem_of_getElem? hx), h2 k y x hy hx]
    simp
def lensOk (size : Int) (FR : List (List Nat)) : Nat → Bool
 | 0 => true
 | m + 1 => lensOk size FR m && match FR[m]? with
  | some f => decide ((f.length : Int) = size)
  | none => true
theorem lensOk_succ {size : Int} {FR : List (List Nat)} {m : Nat} {f : List Nat} (h : FR[m]? = some f) : lensOk size FR (m + 1) = (lensOk size FR m && decide ((f.length : Int) = size)) := by
 show (lensOk size FR m && match FR[m]? with | some f => decide ((f.length : Int) = size) | none => true) = _
 rw [h]
theorem lensOk_le {size : Int} {FR : List (List Nat)} {k : Nat} (h : lensOk size FR k = false) : ∀ c, k ≤ c → lensOk size FR c = false
 | 0, hc => by rw [show k = 0 by omega] at h; exact h
 | c + 1, hc => by
  by_cases hk : k = c + 1
  ·subst hk; exact h
  ·unfold lensOk
   rw [lensOk_le h c (by omega)]
   rfl
theorem lensOk_at {size : Int} {FR : List (List Nat)} : ∀ n, lensOk size FR n = true → ∀ m f, m < n → FR[m]? = some f → (f.length : Int) = size
 | 0, _, m, f, hm, _ => by omega
 | n + 1, h, m, f, hm, hf => by
  unfold lensOk at h
  rw [Bool.and_eq_true] at h
  by_cases hmn : m = n
  ·subst hmn
   rw [hf] at h
   simpa using h.2
  ·exact lensOk_at n h.1 m f (by omega) hf
theorem lensOk_all {size : Nat} {FR : List (List Nat)} (h : lensOk size FR FR.length = true) : ∀ f ∈ FR, f.length = size := fun f hf => by
 obtain ⟨m, hm, rfl⟩ := List.mem_iff_getElem.1 hf
 have := lensOk_at _ h m _ hm (List.getElem?_eq_getElem hm)
 omega
theorem lensOk_of {size : Nat} {FR : List (List Nat)} (h : ∀ f ∈ FR, f.length = size) : ∀ n, lensOk size FR n = true
 | 0 => rfl
 | n + 1 => by
  have ih := lensOk_of h n
  unfold lensOk
  rw [ih]
  cases hf : FR[n]? with
  | none => rfl
  | some f => simp [h f (List.mem_of_getElem? hf)]
theorem kOf_bd {D : List MetaV} (hD : D.length ≤ 64) : ∀ m, bldOk D m = true → kOf D m ≤ 131072 * m
 | 0, _ => Nat.le_refl _
 | m + 1, h => by
  have h1 : bldOk D m = true := by
   unfold bldOk at h
   rw [Bool.and_eq_true] at h
   exact h.1
  have ih := kOf_bd hD m h1
  cases hx : D[m]? with
  | none =>
   show kOf D m + (match D[m]? with | some x => (framesN x).toNat | none => 0) ≤ _
   rw [hx]
   show kOf D m + 0 ≤ _
   omega
  | some x =>
   have := (genM_right (bldOk_at _ h m x (by omega) hx).1).fr
   rw [kOf_succ hx]
   omega
theorem atTo_few {size : Nat} {D : List MetaV} (hL : ∀ x ∈ D, GenM x) : ∀ m, m ≤ D.length → atTo size D m ≤ 20 + 64 * (D.length : Int) + 16 * (m : Int) + ((size + 4) * kOf D m : Nat)
 | 0, _ => by
  unfold atTo kOf
  simp only [Nat.mul_zero]
  omega
 | m + 1, hm => by
  obtain ⟨x, hx⟩ : ∃ x, D[m]? = some x := ⟨_, List.getElem?_eq_getElem (by omega)⟩
  have ih := atTo_few (size := size) hL m (by omega)
  have hF := (hL x (List.mem_of_getElem? hx)).fr
  obtain ⟨F, hFn⟩ := Int.eq_ofNat_of_zero_le hF.1
  rw [atTo_succ hx, kOf_succ hx, hFn, Int.toNat_natCast, Nat.mul_add]
  have e : (((size + 4) * F : Nat) : Int) = (size : Int) * (F : Int) + 4 * (F : Int) := by rw [Nat.add_mul]; push_cast; rfl
  generalize (size : Int) * (F : Int) = P at *
  generalize (size + 4) * F = Q at *
  generalize (size + 4) * kOf D m = R at *
  generalize atTo (size : Int) D m = a at *
  unfold upZ
  push_cast
  omega
theorem canB_of {size : Nat} {D : List MetaV} {FR : List (List Nat)} (h1 : 24 ≤ size) (h2 : size ≤ 96) (h3 : D.length ≤ 64) (h4 : bldOk D D.length = true) (h5 : kOf D D.length = FR.length) (h6 : lensOk size FR FR.length = true) (h7 : ∀ f ∈ FR, Byt f) (h8 : FR.length ≤ 30000) : CanB size D FR := by
 refine ⟨h1, h2, h3, bldOk_right h4, bldOk_asc h4, h5, lensOk_all h6, h7, ?_⟩
 have hb := atTo_few (size := size) (D := D) (fun x hx => genM_right (bldOk_right h4 x hx)) D.length (Nat.le_refl _)
 rw [h5] at hb
 have hq : (size + 4) * FR.length ≤ 100 * 30000 := Nat.mul_le_mul (by omega) h8
 generalize (size + 4) * FR.length = Q at *
 generalize atTo (size : Int) D D.length = a at *
 unfold upZ
 omega
section
variable {size : Nat} {D : List MetaV} {FR : List (List Nat)}
theorem goodM_of {x : MetaV} (h : GoodE x) : GoodM x := ⟨name_size h.name, h.len.1, h.rate.1, h.ch.1, h.ch.2, h.f.1, h.t.1, h.sums.1, h.first.1⟩
theorem CanB.fits_to (h : CanB size D FR) {m : Nat} (hm : m ≤ D.length) : FitsW (bldN size D) (bldFs size (bldDir size D) FR m) := fun p hp => by
 obtain ⟨i, x, hi, hx, hb⟩ := (mem_bldFs _).1 hp
 exact h.fits.1 p ((mem_bldFs _).2 ⟨i, x, by omega, hx, hb⟩)
theorem CanB.fits_at (h : CanB size D FR) {m k : Nat} {x : MetaV} (hx : (bldDir size D)[m]? = some x) (hk : (k : Int) ≤ framesN x) : FitsW (bldN size D) (bldFs size (bldDir size D) FR m ++ bldF size x FR (kOf (bldDir size D) m) k) := fun p hp => by
 have hm := (List.getElem?_eq_some_iff.1 hx).1
 rw [bldDir_len] at hm
 rcases List.mem_append.1 hp with hp | hp
 ·exact h.fits_to (by omega) p hp
 ·obtain ⟨j, f, hj, hf, he⟩ := (mem_bldF _).1 hp
  exact h.fits.1 p ((mem_bldFs _).2 ⟨m, x, hm, hx, (mem_bldF _).2 ⟨j, f, by omega, hf, he⟩⟩)
theorem CanB.at_ (h : CanB size D FR) {m : Nat} {x : MetaV} (hx : (bldDir size D)[m]? = some x) :
  ∃ F S T : Nat, x.first = F ∧ x.sums = S ∧ framesN x = T ∧ 1 ≤ T ∧ kOf D (m + 1) = kOf D m + T ∧ kOf D m + T ≤ FR.length ∧ ∀ j, j < T → ∃ f, FR[kOf D m + j]? = some f ∧ f.length = size ∧ F + j * size + size ≤ bldN size D ∧ S + 4 * j + 4 ≤ bldN size D := by
 have hm := (List.getElem?_eq_some_iff.1 hx).1
 rw [bldDir_len] at hm
 obtain ⟨y, hy⟩ : ∃ y, D[m]? = some y := ⟨_, List.getElem?_eq_getElem hm⟩
 obtain ⟨F, S, T, A, B, hpl⟩ := h.place hx
 have hk := kOf_succ hy
 have he : plc size D m y = x := by
  have := bldDir_get (size := size) hy
  rw [hx] at this
  exact (Option.some.inj this).symm
 have hT : (framesN y).toNat = T := by
  have : framesN y = framesN x := by rw [← he]; rfl
  rw [this, hpl.num, Int.toNat_natCast]
 have hmo := kOf_mono D (show m + 1 ≤ D.length by omega)
 rw [h.cnt, hk, hT] at hmo
 rw [hT] at hk
 have h1T : 1 ≤ T := by
  obtain ⟨r1, _, r3, _, _⟩ := right_bds (h.right y (List.mem_of_getElem? hy))
  have hc1 : 1 ≤ countZ y.length := by unfold countZ; rw [if_neg (by omega)]; omega
  have hm1 := Int.mul_le_mul_of_nonneg_right hc1 (show 0 ≤ y.channels by omega)
  have : framesN y = countZ y.length * y.channels := rfl
  omega
 refine ⟨F, S, T, hpl.fst, hpl.sum, hpl.num, h1T, hk, hmo, fun j hj => ?_⟩
 obtain ⟨f, hf⟩ : ∃ f, FR[kOf D m + j]? = some f := ⟨_, List.getElem?_eq_getElem (by omega)⟩
 have hl := h.len f (List.mem_of_getElem? hf)
 obtain ⟨F', S', e1, e2, m1, m2⟩ := h.frame_mem hx (by rw [hpl.num]; omega) hf
 have hF : F' = F := Int.ofNat_inj.1 (e1.symm.trans hpl.fst)
 have hS : S' = S := Int.ofNat_inj.1 (e2.symm.trans hpl.sum)
 subst hF hS
 have f1 := h.fits.1 _ m1
 have f2 := h.fits.1 _ m2
 rw [numB_len] at f1
 rw [hl, Nat.mul_comm] at f2
 exact ⟨f, hf, hl, f2, f1⟩
end
end Go.Proofs.YtgcfkblmnpnogaaGreatDoor
namespace Go.Proofs.YtgcfkblmnpnogaaGreatDoor
open Go.RowKit Go.Lib
def BuildP (w : World) (size : Nat) (D : List MetaV) (FR : List (List Nat)) (e : Ending) (w' : World) : Prop :=
 Below w.heap.size w w' ∧ ((bldOk D D.length = false ∧ e = .returned (.tuple #[.slice none 0 0, .int .i64 4])) ∨ (bldOk D D.length = true ∧ (kOf D D.length ≠ FR.length ∨ lensOk size FR FR.length = false) ∧ e = .returned (.tuple #[.slice none 0 0, .int .i64 1])) ∨
  (CanB size D FR ∧ ∃ g, e = .returned (.tuple #[.slice (some ⟨g, 0, none⟩) (bldN size D) (bldN size D), .int .i64 0]) ∧ w.heap.size ≤ g ∧ BytesAt w' g (bldZ size D FR)))
set_option maxRecDepth 100000 in
set_option maxHeartbeats 16000000 in
theorem Build_any (size : Nat) (D : List MetaV) (A : Option Addr) (capD : Nat) (FR : List (List Nat)) (Af : Option Addr) (capF : Nat) (w : World) (h1 : 24 ≤ size) (h2 : size ≤ 96) (hD : D.length ≤ 64)
  (hr : Row w w.heap.size A (metaCells D)) (hf : BRows w w.heap.size Af FR) (hfl : FR.length ≤ 30000) (hcf : FR.length ≤ capF) (hcm : capF ≤ 9223372036854775807) (hbt : ∀ f ∈ FR, Byt f) :
  Calls Tryz.prog 18 #[.int .i64 size, .slice A D.length capD, .slice Af FR.length capF] w (BuildP w size D FR) := by
 obtain ⟨i0, hi, ⟨z0, hz0, hz0s⟩, hi1, hi2⟩ := meta_info
 obtain ⟨iB, hiB, hzB0, hzB1, hzB2⟩ := info_parts inf_u8
 obtain ⟨vs, hvl, hvr, hvf⟩ := hf.at_
 have HCan := hid (fun h4 h5 h6 => canB_of (size := size) (D := D) (FR := FR) h1 h2 hD h4 h5 h6 hbt hfl)
 have HOk0 := hid (fun x h => bldOk_zero (D := D) (x := x) h)
 have HOkS := hid (fun m x y h k => bldOk_succ (D := D) (m := m) (x := x) (y := y) h k)
 have HOkL := hid (fun (m : Nat) (h : bldOk D m = false) (hm : m ≤ D.length) => bldOk_le h D.length hm)
 have HkB := hid (fun (m : Nat) (h : bldOk D m = true) => kOf_bd hD m h)
 have HkS := hid (fun (m : Nat) x h => kOf_succ (D := D) (m := m) (x := x) h)
 have HLnS := hid (fun (m : Nat) f h => lensOk_succ (size := (size : Int)) (FR := FR) (m := m) (f := f) h)
 have HLnL := hid (fun (m : Nat) (h : lensOk size FR m = false) (hm : m ≤ FR.length) => lensOk_le h FR.length hm)
 have HkF := hid (show ∀ m, kOf D m = kOf D m from fun _ => rfl)
 have HG := hid (fun (h : bldOk D D.length = true) x (hx : x ∈ D) => genM_right (bldOk_right h x hx))
 have HZ := hid (show bldZ size D FR = withHead (lays (List.replicate (bldN size D) 0) (bldFs size (bldDir size D) FR D.length)) (bldDir size D) size from rfl)
 have HNe := hid (fun (h : CanB size D FR) => h.len_eq)
 have HPd := hid (show mixTo size D D.length = bldDir size D from rfl)
 have HPl := hid (bldDir_len size D)
 have Hr := hid hr
 have HVr := hid hvr
 have HVf := hid hvf
 have Hone := hid (metas_one D)
 have Hml := hid (metaCells_len D)
 have Hvl := hid hvl
 have HFit := hid (fun (h : CanB size D FR) m (hm : m ≤ D.length) => h.fits_to hm)
 obtain ⟨nD, hnD⟩ : ∃ n, D.length = n := ⟨_, rfl⟩
 obtain ⟨nf, hnf⟩ : ∃ n, FR.length = n := ⟨_, rfl⟩
 rw [hnD] at hD HCan HOkL HG HZ HNe HPd HPl Hml HFit ⊢
 rw [hnf] at hfl hcf HCan HLnL Hvl ⊢
 have HnD := hid hnD
 have Hnf := hid hnf
 clear hr hf hvl hvr hvf hbt hnD hnf
 have s1 : ¬ (size : Int) < 24 := by omega
 have s2 : ¬ (96 : Int) < (size : Int) := by omega
 have s3 : ¬ (64 : Int) < (nD : Int) := by omega
 go_enter Tryz.func18, Tryz.ntmps18
 go_wp2_with fail
 go_loopw [8, 30] (fun v i wr => ∃ m : Nat, m ≤ nD ∧ i = .int .i64 m ∧ v = .int .i64 (kOf D m) ∧ bldOk D m = true ∧ Below w.heap.size w wr) (fun _ i _ => nD - (intOf i).toNat)
 case atStart => exact ⟨0, by omega, rfl, rfl, rfl, Below.refl _ _⟩
 case round =>
  obtain ⟨m, hm, rfl, rfl, hok, hbel⟩ := hrel
  have Hbel := hid hbel
  have Hok := hid hok
  clear hbel hok
  by_cases hlt : m < nD
  ·have t1 : (m : Int) < (nD : Int) := by omega
   have t2 : (0 : Int) ≤ (m : Int) := by omega
   obtain ⟨x, hx⟩ := list_get (k := m) HnD.out hlt
   obtain ⟨b, off, rfl, hbl, hcl⟩ := meta_at (Hr.out.later Hbel.out) hx
   have Hx := hid hx
   have HkS1 := hid (HkS.out m x hx)
   have hkB := HkB.out m Hok.out
   obtain ⟨rb, hrb⟩ : ∃ rb, x.right = rb := ⟨_, rfl⟩
   have HG1 := hid (fun (h : x.right = true) => genM_right h)
   have HFr := hid (fun W (h : x.right = true) => bankFrames_any x W (by have := (genM_right h).len; omega) (by have := (genM_right h).ch; omega))
   obtain ⟨nm, len, rate, ch, lp, f, t, sums, first⟩ := x
   have k0 := hcl 0 _ rfl
   have k1 := hcl 1 _ rfl
   have k2 := hcl 2 _ rfl
   have k3 := hcl 3 _ rfl
   have k4 := hcl 4 _ rfl
   have k5 := hcl 5 _ rfl
   have k6 := hcl 6 _ rfl
   have k7 := hcl 7 _ rfl
   have k8 := hcl 8 _ rfl
   rw [Nat.add_zero] at k0
   have HRm := hid (fun W => RightMeta_any nm len rate ch lp f t sums first W)
   rw [hrb] at HRm
   have Hrb := hid hrb
   have HP := hid (fun (r : Nat) (pv : MetaV) (h : D[r]? = some pv) => (show wr.cell? ⟨b, off + r * 9, none⟩ = some (.string pv.name) from by
    obtain ⟨b', off', hA', _, hcl'⟩ := meta_at (Hr.out.later Hbel.out) h
    injection hA' with hA'
    injection hA' with e1 e2
    subst e1 e2
    have := hcl' 0 _ rfl
    rwa [Nat.add_zero] at this))
   have Hbl := hid hbl
   clear hcl hx hbl hrb
   go_wp2_with fail
   clear k0 k1 k2 k3 k4 k5 k6 k7 k8
   obtain ⟨w5, hw5⟩ : ∃ w5, wr.alloc (.cells #[.string nm, .int .i64 len, .int .i64 rate, .int .i64 ch, .bool lp, .int .i64 f, .int .i64 t, .int .i64 sums, .int .i64 first] 27) = w5 := ⟨_, rfl⟩
   rw [hw5]
   have Hx5 := hid (show Blk w5 wr.heap.size 27 (MetaV.cells ⟨nm, len, rate, ch, lp, f, t, sums, first⟩) by rw [← hw5]; exact Blk.new wr _ (MetaV.cells ⟨nm, len, rate, ch, lp, f, t, sums, first⟩))
   have B5 := hid (show Below wr.heap.size wr w5 by rw [← hw5]; exact bnew wr _)
   obtain ⟨gm, hgm⟩ : ∃ gm, wr.heap.size = gm := ⟨_, rfl⟩
   rw [hgm] at Hx5 ⊢
   clear hw5 hgm
   have x5 := fun (z : GW w5) => (z.2.block gm Hx5.out.lt).trans Hx5.out
   have xn : ∀ (z : GW w5), z.1.cell? ⟨gm, 0, none⟩ = some (.string nm) := fun z => (z.2.cell (p := ⟨gm, 0, none⟩) Hx5.out.lt).trans (Hx5.out.cell 0)
   have HFm := hid (show (Tryz.prog.info? 27).map (·.size) = some 9 by kernel_rfl)
   have E5 := hid (bnext Hbel.out B5.out)
   cases rb with
   | false =>
    have hbad : bldOk D (m + 1) = false := by
     cases m with
     | zero => rw [HOk0.out _ Hx.out, Hrb.out]
     | succ r =>
      obtain ⟨y, hy⟩ := list_get (k := r) HnD.out (by omega)
      rw [HOkS.out r _ y Hx.out hy, Hrb.out]
      simp
    have hE := HOkL.out _ hbad (by omega)
    have v1 : decide ((0 : Int) < (m : Int)) = decide ((0 : Int) < (m : Int)) := rfl
    clear hbad v1 xn
    refine wp_region_calm (by kernel_rfl) (by kernel_rfl) ?_
    repeat (first | (go_big_quiet_want; refine quiet_load_row 27 (.tmp 10) rfl gm rfl _ (MetaV.cells ⟨nm, len, rate, ch, lp, f, t, sums, first⟩).toArray _ _ (by rintro _ ⟨x, rfl⟩; exact x5 x) Tryz.underlying27 rfl HFm.out ?_; go_simp; go_big_quiet_on) | go_big_quiet_step ((go_at_call 16; exact calm_call (HRm.out _))))
    refine wpQuiet_nil ?_
    intro w6 hw'
    have B6 := hid (gw_below hw')
    clear hw' x5
    go_wp2
    refine bodyPost_ret (results_tmp2 Tryz.results18 _ _ _) rfl ?_
    unfold BuildP
    rw [HnD.out, Hnf.out]
    exact ⟨bnext E5.out B6.out, .inl ⟨hE, rfl⟩⟩
   | true =>
    have hfr := (HG1.out Hrb.out).fr
    have HFr1 := hid (fun W => HFr.out W Hrb.out)
    obtain ⟨F, hF⟩ := Int.eq_ofNat_of_zero_le hfr.1
    rw [hF] at hfr HFr1
    have HkS2 := hid (show kOf D (m + 1) = kOf D m + F by rw [HkS1.out, hF, Int.toNat_natCast])
    clear hF
    by_cases hm0 : m = 0
    ·have hgood : bldOk D (m + 1) = true := by
      subst hm0
      rw [HOk0.out _ Hx.out, Hrb.out]
     have Hgd := hid hgood
     have v1 : decide ((0 : Int) < (m : Int)) = false := decide_eq_false (by omega)
     have v2 : decide (0 < m) = false := decide_eq_false (by omega)
     clear hgood hm0 xn
     refine wp_region_calm (by kernel_rfl) (by kernel_rfl) ?_
     repeat (first | (go_big_quiet_want; refine quiet_load_row 27 (.tmp 10) rfl gm rfl _ (MetaV.cells ⟨nm, len, rate, ch, lp, f, t, sums, first⟩).toArray _ _ (by rintro _ ⟨x, rfl⟩; exact x5 x) Tryz.underlying27 rfl HFm.out ?_; go_simp; go_big_quiet_on) | go_big_quiet_step ((go_at_call 16; exact calm_call (HRm.out _))))
     refine wpQuiet_nil ?_
     intro w6 hw'
     have B6 := hid (gw_below hw')
     clear hw' x5 v1 v2
     have E6 := hid (bnext E5.out B6.out)
     have Y6 := hid (Hx5.out.below B6.out Hx5.out.lt)
     go_wp2_with (first | (refine wpList_load_row_w rfl 27 (.tmp 10) rfl gm rfl _ (MetaV.cells ⟨nm, len, rate, ch, lp, f, t, sums, first⟩).toArray _ _ Y6.out Tryz.underlying27 rfl HFm.out ?_) | (go_at_call 17; fail))
     refine (HFr1.out _).mono ?_
     rintro e w7 ⟨rfl, hb7⟩
     have E7 := hid (bnext E6.out hb7)
     clear hb7
     go_wp2
     go_roundw
     case rel => exact ⟨m + 1, by omega, by go_num, by rw [HkS2.out]; exact congrArg (Value.int .i64) (by push_cast; rfl), Hgd.out, E7.out⟩
     case measure => first | (simp [intOf]; done) | (simp [intOf]; omega)
    ·have v1 : decide ((0 : Int) < (m : Int)) = true := decide_eq_true (by omega)
     have v2 : 0 < m := by omega
     obtain ⟨r, hrm⟩ : ∃ r, m = r + 1 := ⟨m - 1, by omega⟩
     have hmr : (m : Int) - 1 = (r : Int) := by omega
     have v3 : (r : Int) < (nD : Int) := by omega
     have v4 : (0 : Int) ≤ (r : Int) := by omega
     obtain ⟨pv, hpr⟩ := list_get (k := r) HnD.out (by omega)
     have xp := fun (z : GW w5) => (z.2.cell (p := ⟨b, off + r * 9, none⟩) (Nat.lt_of_lt_of_le Hbl.out B5.out.size)).trans ((B5.out.cell (p := ⟨b, off + r * 9, none⟩) Hbl.out).trans (HP.out r pv hpr))
     have hbl := bytesLess_nm pv.name nm
     have HOk1 := hid (show bldOk D (m + 1) = nameLt pv.name nm by
      subst hrm
      rw [HOkS.out r _ pv Hx.out hpr, Hrb.out, Hok.out]
      simp)
     clear hpr hm0 hrm
     by_cases hlss : nameLt pv.name nm = true
     ·have Hgd := hid (show bldOk D (m + 1) = true by rw [HOk1.out, hlss])
      rw [hlss] at hbl
      clear hlss
      refine wp_region_calm (by kernel_rfl) (by kernel_rfl) ?_
      repeat (first | (go_big_quiet_want; refine quiet_load_row 27 (.tmp 10) rfl gm rfl _ (MetaV.cells ⟨nm, len, rate, ch, lp, f, t, sums, first⟩).toArray _ _ (by rintro _ ⟨x, rfl⟩; exact x5 x) Tryz.underlying27 rfl HFm.out ?_; go_simp; go_big_quiet_on) | go_big_quiet_step ((go_at_call 16; exact calm_call (HRm.out _))))
      refine wpQuiet_nil ?_
      intro w6 hw'
      have B6 := hid (gw_below hw')
      clear hw' x5 v1 v2 xp xn hbl v3 v4 hmr
      have E6 := hid (bnext E5.out B6.out)
      have Y6 := hid (Hx5.out.below B6.out Hx5.out.lt)
      go_wp2_with (first | (refine wpList_load_row_w rfl 27 (.tmp 10) rfl gm rfl _ (MetaV.cells ⟨nm, len, rate, ch, lp, f, t, sums, first⟩).toArray _ _ Y6.out Tryz.underlying27 rfl HFm.out ?_) | (go_at_call 17; fail))
      refine (HFr1.out _).mono ?_
      rintro e w7 ⟨rfl, hb7⟩
      have E7 := hid (bnext E6.out hb7)
      clear hb7
      go_wp2
      go_roundw
      case rel => exact ⟨m + 1, by omega, by go_num, by rw [HkS2.out]; exact congrArg (Value.int .i64) (by push_cast; rfl), Hgd.out, E7.out⟩
      case measure => first | (simp [intOf]; done) | (simp [intOf]; omega)
     ·have hlf : nameLt pv.name nm = false := by simpa using hlss
      have hE := HOkL.out (m + 1) (by rw [HOk1.out, hlf]) (by omega)
      rw [hlf] at hbl
      clear hlss hlf
      refine wp_region_calm (by kernel_rfl) (by kernel_rfl) ?_
      repeat (first | (go_big_quiet_want; refine quiet_load_row 27 (.tmp 10) rfl gm rfl _ (MetaV.cells ⟨nm, len, rate, ch, lp, f, t, sums, first⟩).toArray _ _ (by rintro _ ⟨x, rfl⟩; exact x5 x) Tryz.underlying27 rfl HFm.out ?_; go_simp; go_big_quiet_on) | go_big_quiet_step ((go_at_call 16; exact calm_call (HRm.out _))))
      refine wpQuiet_nil ?_
      intro w6 hw'
      have B6 := hid (gw_below hw')
      clear hw' x5 xp xn hbl
      go_wp2
      refine bodyPost_ret (results_tmp2 Tryz.results18 _ _ _) rfl ?_
      unfold BuildP
      rw [HnD.out, Hnf.out]
      exact ⟨bnext E5.out B6.out, .inl ⟨hE, rfl⟩⟩
  ·have hmn : m = nD := by omega
   subst hmn
   have t1 : ¬ ((m : Int) < (m : Int)) := by omega
   obtain ⟨kn, hkn⟩ : ∃ kn, kOf D m = kn := ⟨_, rfl⟩
   rw [hkn]
   by_cases hk : kn = nf
   rotate_left
   ·have t2 : ((kn : Int) != (nf : Int)) = true := by rw [bne_iff_ne]; omega
    go_wp2
    refine bodyPost_ret (results_tmp2 Tryz.results18 _ _ _) rfl ?_
    unfold BuildP
    rw [HnD.out, Hnf.out]
    exact ⟨Hbel.out, .inr (.inl ⟨Hok.out, .inl (by rw [hkn]; exact hk), rfl⟩)⟩
   subst hk
   have t2 : ((kn : Int) != (kn : Int)) = false := by simp
   have Hkn := hid hkn
   clear hkn
   obtain ⟨wb, rfl⟩ : ∃ wb, wb = wr := ⟨_, rfl⟩
   go_wp2_with fail
   go_loopw [64] (fun i wx => ∃ q : Nat, q ≤ kn ∧ i = .int .i64 q ∧ lensOk size FR q = true ∧ Below w.heap.size w wx) (fun i _ => kn - (intOf i).toNat)
   case atStart => exact ⟨0, by omega, rfl, rfl, Hbel.out⟩
   case round =>
    obtain ⟨q, hq, rfl, hlo, hbel2⟩ := hrel
    have Hb2 := hid hbel2
    have Hlo := hid hlo
    clear hbel2 hlo
    by_cases hlq : q < kn
    ·have t3 : (q : Int) < (kn : Int) := by omega
     have t4 : (0 : Int) ≤ (q : Int) := by omega
     obtain ⟨f, hf⟩ := list_get (k := q) Hnf.out hlq
     obtain ⟨v, hv⟩ := list_get (k := q) Hvl.out hlq
     obtain ⟨a, c, rfl, _, _, _⟩ := HVf.out q v f hv hf
     obtain ⟨bf, of_, rfl, hbf, hcf'⟩ := HVr.out q _ hv
     have c5 := (Hb2.out.cell (p := ⟨bf, of_ + q, none⟩) hbf).trans hcf'
     have HLs := HLnS.out q f hf
     obtain ⟨fl, hfl'⟩ : ∃ n, f.length = n := ⟨_, rfl⟩
     rw [hfl'] at c5 HLs
     have HLs := hid HLs
     clear hf hv hbf hcf' hfl'
     by_cases hs : (fl : Int) = (size : Int)
     ·have t5 : ((fl : Int) != (size : Int)) = false := by simp [hs]
      have hl2 : lensOk size FR (q + 1) = true := by rw [HLs.out, Hlo.out, decide_eq_true hs]; rfl
      have Hl2 := hid hl2
      clear hl2 hs
      go_wp2
      go_roundw
      case rel => exact ⟨q + 1, by omega, by go_num, Hl2.out, Hb2.out⟩
      case measure => first | (simp [intOf]; done) | (simp [intOf]; omega)
     ·have t5 : ((fl : Int) != (size : Int)) = true := by rw [bne_iff_ne]; exact hs
      have hl2 := HLnL.out (q + 1) (by rw [HLs.out, decide_eq_false hs]; simp) (by omega)
      go_wp2
      refine bodyPost_ret (results_tmp2 Tryz.results18 _ _ _) rfl ?_
      unfold BuildP
      rw [HnD.out, Hnf.out]
      exact ⟨Hb2.out, .inr (.inl ⟨Hok.out, .inr hl2, rfl⟩)⟩
    ·have hqn : q = kn := by omega
     subst hqn
     have t3 : ¬ ((q : Int) < (q : Int)) := by omega
     have HC := hid (HCan.out Hok.out Hkn.out Hlo.out)
     have hlen2 := HC.out.len_bd
     have hNe := HNe.out HC.out
     have HHd := hid (fun x (h : x ∈ bldDir size D) => goodM_of (HC.out.goodE x h).1)
     have HRt := hid (fun x (h : x ∈ bldDir size D) => (HC.out.goodE x h).2)
     have HAt := hid (fun (k : Nat) x (h : (bldDir size D)[k]? = some x) => HC.out.at_ h)
     have HFa := hid (fun (m k : Nat) x (h : (bldDir size D)[m]? = some x) (hk : (k : Int) ≤ framesN x) => HC.out.fits_at h hk)
     have HFt := hid (fun m' (h : m' ≤ m) => HFit.out HC.out m' h)
     have HKm := hid (fun m' => kOf_mix (size : Int) D m m')
     have HBs := hid (fun (k : Nat) x (h : (bldDir size D)[k]? = some x) => bldFs_succ (size := size) (FR := FR) h)
     have HBf := hid (fun x (k n : Nat) f (h : FR[k + n]? = some f) => bldF_succ (size := size) (x := x) h)
     have hPd := HPd.out
     rw [hPd] at HKm
     have HGs := hid (HG.out Hok.out)
     have HPlc := hid (fun B c (A' : Option Addr) W (ho : W.ownsRow B 27 9 (.slice A' m c) m (metaCells D)) (hB : B ≤ W.heap.size) => place_gen (size : Int) m c B D A' W HnD.out hD HGs.out (by omega) (by omega) ho hB)
     rw [← hNe, hPd] at HPlc
     have HZ2 := hid HZ.out
     obtain ⟨N, hN⟩ : ∃ N, bldN size D = N := ⟨_, rfl⟩
     rw [hN] at hlen2 HAt HFa HFt HPlc HZ2
     have HNN := hid hN
     obtain ⟨PM, hPM⟩ : ∃ PM, bldDir size D = PM := ⟨_, rfl⟩
     have HPl2 := hid (show PM.length = m by rw [← hPM]; exact HPl.out)
     rw [hPM] at HHd HRt HAt HFa HFt HKm HBs HPlc HZ2
     rw [HnD.out] at hlen2
     have hlen2' : 20 + m * 64 ≤ N ∧ N ≤ 4000000 := hlen2
     clear HCan HOk0 HOkS HOkL HkB HkS HLnS HLnL HNe hNe HPd HPl hPd hPM hN HG HGs HFit HZ hlen2 HkF
     obtain ⟨wc, rfl⟩ : ∃ wc, wc = wr := ⟨_, rfl⟩
     have E1 := hid Hb2.out
     go_wp2_with (at_builtin; refine wpList_app _ rfl (.const (.slice none 0 0)) (.tmp 73) 22 rfl wc.heap.size 27 i0 z0 9 80 Tryz.underlying22 hi hz0 hi1 hi2 hz0s (by omega) (.slice none 0 0) 0 [] rfl (World.ownsRow_nil _ _ _ _) w.heap.size A m capD (metaCells D) rfl Hml.out (Hr.out.below E1.out) Hone.out (by omega) (by omega) (Nat.le_refl _) ?_; intro A2 c2 w2 hown2 hgrow hat hcc)
     rw [Nat.zero_add, List.nil_append] at hown2
     have E2 := hid (show Below wc.heap.size wc w2 from (Below.refl _ _).grown hgrow (Nat.le_refl _) (fun k hk => by cases hk))
     have HPlc2 := hid (HPlc.out wc.heap.size c2 A2 w2 hown2 E2.out.size)
     clear hown2 hgrow hat hcc HPlc
     go_wp2_with (go_at_call 69; fail)
     refine HPlc2.out.mono ?_
     rintro e w5 ⟨rfl, hown5, hb5⟩
     have u2 : ¬ ((4194304 : Int) < (N : Int)) := by omega
     have u3 : ¬ ((N : Int) < 0) := by omega
     have R5 := hid (Row.of_own hown5)
     have HA5 := hid (own_addr_lt hown5)
     have E5 := hid (show Below w.heap.size w w5 from E1.out.trans ((E2.out.trans hb5).mono E1.out.size))
     obtain ⟨mc, hmc⟩ : ∃ mc, madeCells #[Value.int .u8 0] N = mc := ⟨_, rfl⟩
     have Hms := hid (show mc = (u8s (List.replicate N 0)).toArray from by
      have h := toList_madeCells_one (Value.int .u8 0) N
      rw [hmc] at h
      have : u8s (List.replicate N 0) = List.replicate N (.int .u8 0) := by simp [u8s]
      rw [this, ← h])
     clear hown5 hb5 HPlc2
     go_wp2_with (refine wpList_make_row w5 rfl (.tmp 80) (.tmp 80) 29 rfl 5 iB (.int .u8 0) Tryz.underlying29 hiB hzB0 hzB1 rfl .i64 .i64 N rfl rfl (by rw [hzB2]; omega) (by omega) ?_; rw [hmc])
     obtain ⟨wB, hwB⟩ : ∃ wB, w5.alloc (.cells mc 5) = wB := ⟨_, rfl⟩
     rw [hwB]
     have HyB := hid (show BytesAt wB w5.heap.size (List.replicate N 0) by
      rw [← hwB, Hms.out]
      exact Blk.new w5 5 (u8s (List.replicate N 0)))
     have E5B := hid (show Below w5.heap.size w5 wB by rw [← hwB]; exact bnew w5 _)
     have RB := hid (show Row wB w5.heap.size A2 (metaCells PM) from R5.out.below E5B.out)
     have EB := hid (show Below w.heap.size w wB from bnext E5.out E5B.out)
     have H35 := hid (show w.heap.size ≤ w5.heap.size from E5.out.size)
     have HwB := hid (show w5.heap.size ≤ wB.heap.size from E5B.out.size)
     obtain ⟨gB, hgB⟩ : ∃ gB, w5.heap.size = gB := ⟨_, rfl⟩
     rw [hgB] at HyB RB H35 HwB HA5 ⊢
     have HW := hid (fun W (hW : wB.grownBy W (some gB)) => (show Below w.heap.size w W from EB.out.grown hW (Nat.le_trans H35.out HwB.out) (fun k hk => by injection hk with hk; have := H35.out; omega)))
     have HMf := hid (show (Tryz.prog.info? 27).map (·.size) = some 9 by kernel_rfl)
     clear hwB hgB hmc Hms R5 E5 E5B E2 E1
     go_wp2_with fail
     go_loopw [2, 84] (fun fr i wx => ∃ (p : Nat) (A' : Option Addr) (c' : Nat), p ≤ m ∧ i = .int .i64 p ∧ fr = .slice A' (q - kOf D p) c' ∧ q - kOf D p ≤ c' ∧ c' ≤ 9223372036854775807 ∧ Row w w.heap.size A' (vs.drop (kOf D p)) ∧ BytesAt wx gB (lays (List.replicate N 0) (bldFs size PM FR p)) ∧ wB.grownBy wx (some gB)) (fun _ i _ => m - (intOf i).toNat)
     case atStart => exact ⟨0, Af, capF, by omega, rfl, rfl, hcf, hcm, HVr.out, HyB.out, World.grownBy.refl _ _⟩
     case round =>
      obtain ⟨p, A', c', hp, rfl, rfl, hc1, hc2, hrw, hby, hgr⟩ := hrel
      obtain ⟨wx, rfl⟩ : ∃ wx, wx = wr := ⟨_, rfl⟩
      have Hrw := hid hrw
      have Hby := hid hby
      have Hgr := hid hgr
      clear hrw hby hgr
      by_cases hlp : p < m
      ·have t5 : (p : Int) < (m : Int) := by omega
       have t6 : (0 : Int) ≤ (p : Int) := by omega
       obtain ⟨x, hx⟩ := list_get (k := p) HPl2.out hlp
       obtain ⟨F, S, T, hxF, hxS, hxT, h1T, hkS, hkL, hxa⟩ := HAt.out p x hx
       have hxa := hid hxa
       rw [Hnf.out] at hkL
       have HBs1 := hid (HBs.out p x hx)
       have HFa1 := hid (fun k (hk : k ≤ T) => HFa.out p k x hx (by rw [hxT]; omega))
       have HKp := hid (HKm.out p)
       rw [hxT, Int.toNat_natCast] at HBs1
       obtain ⟨bD, oD, rfl, hbD, hcD⟩ := meta_at RB.out hx
       have HXd := hid (fun (W : World) (hW : wB.grownBy W (some gB)) j v (hv : x.cells[j]? = some v) => (show W.cell? ⟨bD, oD + p * 9 + j, none⟩ = some v from (hW.cell_far ⟨bD, oD + p * 9 + j, none⟩ (Nat.lt_of_lt_of_le hbD HwB.out) (fun e => by injection e with e; simp only at e; omega)).trans (hcD j v hv)))
       have HX := hid (HXd.out wx Hgr.out)
       obtain ⟨K, hK⟩ : ∃ K, kOf D p = K := ⟨_, rfl⟩
       rw [hK] at hkS hkL hxa hc1 Hrw HKp ⊢
       have hvK : ∃ v, (vs.drop K)[0]? = some v := by
        rw [List.getElem?_drop]
        exact ⟨_, List.getElem?_eq_getElem (by rw [Hvl.out]; omega)⟩
       obtain ⟨v0, hv0⟩ := hvK
       obtain ⟨bA, oA, rfl, hbA, _⟩ := Hrw.out 0 v0 hv0
       have hxm := HRt.out x (List.mem_of_getElem? hx)
       have HFr := hid (fun W => (show Calls Tryz.prog 17 #[.agg x.cells.toArray] W (fun e w' => e = .returned (.int .i64 (T : Nat)) ∧ Below W.heap.size W w') from by
        have := bankFrames_any x W (by have := (genM_right hxm).len; omega) (by have := (genM_right hxm).ch; omega)
        rwa [hxT] at this))
       have Hx7 := hid (show x.cells[7]? = some (.int .i64 S) by rw [← hxS]; rfl)
       have Hx8 := hid (show x.cells[8]? = some (.int .i64 F) by rw [← hxF]; rfl)
       have HFn := hid (show x.first.toNat = F by rw [hxF]; exact Int.toNat_natCast F)
       have HSn := hid (show x.sums.toNat = S by rw [hxS]; exact Int.toNat_natCast S)
       have HO1 := hid (meta_all x)
       obtain ⟨xc, hxc⟩ : ∃ xc, x.cells = xc := ⟨_, rfl⟩
       have hx9 : xc.length = 9 := by rw [← hxc]; rfl
       rw [hxc] at HX Hx7 Hx8 HO1 HFr
       have HFl := hid (show (Tryz.prog.info? 27).map (·.size) = some xc.length by rw [hx9]; exact HMf.out)
       have HFz := hid (show (Tryz.prog.info? 27).map (·.size) = some xc.toArray.size by rw [List.size_toArray, hx9]; exact HMf.out)
       have Hz9 := hid (show xc.toArray.size = 9 by rw [List.size_toArray, hx9])
       rw [HKp.out] at HBs1 HFa1
       have hT1 : T ≤ q - K := by omega
       have Hxa := hxa
       clear hxm hx9 hxc hbD hcD HXd hx hv0 hxF hxS hxT hK hxa
       go_wp2_with (first | (refine wpList_load_part_w rfl 27 (.tmp 86) rfl bD (oD + p * 9) rfl xc _ HX.out Tryz.underlying27 rfl HFl.out ?_) | (refine wpList_store_row_w rfl 27 (.tmp 16) (.tmp 87) rfl wx.heap.size rfl _ _ xc.toArray rfl (heap_alloc_new wx _) HFz.out (by rw [Hz9.out]; rfl) HO1.out ?_; rw [World.setRow_alloc_new]) | (refine wpList_load_row_w rfl 27 (.tmp 16) rfl wx.heap.size rfl _ xc.toArray _ _ (heap_alloc_new wx _) Tryz.underlying27 rfl HFz.out ?_) | (go_at_call 17; fail))
       refine (HFr.out _).mono ?_
       rintro e w6 ⟨rfl, hb6⟩
       have Hgl := hid (show gB < wx.heap.size from Hby.out.lt)
       have E6 := hid (bnext (bnew wx (.cells xc.toArray 27)) hb6)
       have X6 := hid (show Blk w6 wx.heap.size 27 xc from (Blk.new wx 27 xc).below hb6 (by simp))
       have Y6 := hid (Hby.out.below E6.out Hby.out.lt)
       have G6 := hid (grownBy_below Hgr.out E6.out)
       have HY0 := hid (show BytesAt w6 gB (lays (List.replicate N 0) (bldFs size PM FR p ++ bldF size x FR K 0)) from by
        rw [show bldFs size PM FR p ++ bldF size x FR K 0 = bldFs size PM FR p by simp [bldF]]
        exact Y6.out)
       obtain ⟨gm, hgm⟩ : ∃ gm, wx.heap.size = gm := ⟨_, rfl⟩
       rw [hgm] at X6 Hgl ⊢
       have HLs := hid (fun k (hk : k ≤ T) => (show (lays (List.replicate N 0) (bldFs size PM FR p ++ bldF size x FR K k)).length = N from lays_len (by simp) (HFa1.out k hk)))
       have HBf1 := hid (fun (k : Nat) f (h : FR[K + k]? = some f) => HBf.out x K k f h)
       have HTb := hid (show T ≤ 30000 by omega)
       clear hgm hb6 Y6 HFa1 HX
       have y1 : (0 : Int) ≤ (T : Int) := by omega
       have y2 : (T : Int) ≤ (c' : Int) := by omega
       go_wp2_with fail
       go_loopw [93] (fun i wy => ∃ k : Nat, k ≤ T ∧ i = .int .i64 k ∧ BytesAt wy gB (lays (List.replicate N 0) (bldFs size PM FR p ++ bldF size x FR K k)) ∧ w6.grownBy wy (some gB)) (fun i _ => T - (intOf i).toNat)
       case atStart => exact ⟨0, by omega, rfl, HY0.out, World.grownBy.refl _ _⟩
       case round =>
        obtain ⟨k, hk, rfl, hby, hgr⟩ := hrel
        obtain ⟨wy, rfl⟩ : ∃ wy, wy = wr := ⟨_, rfl⟩
        have Hy3 := hid hby
        have Hg3 := hid hgr
        clear hby hgr
        by_cases hlk : k < T
        ·have t7 : (k : Int) < (T : Int) := by omega
         have t8 : (0 : Int) ≤ (k : Int) := by omega
         obtain ⟨f, hf, hfl2, hfb1, hfb2⟩ := Hxa.out k hlk
         obtain ⟨v, hv⟩ := list_get (k := K + k) Hvl.out (by omega)
         obtain ⟨a, c, rfl, q1, q2, hrow⟩ := HVf.out (K + k) v f hv hf
         have hcs := HBf1.out k f hf
         rw [hfl2] at hv q1
         have Hbw := hid (HW.out wy (grownBy_trans G6.out Hg3.out))
         obtain ⟨b', o', hA', _, hcl⟩ := Hrw.out k _ (by rw [List.getElem?_drop]; exact hv)
         injection hA' with hA'
         injection hA' with e1 e2
         subst e1 e2
         have c5 := (Hbw.out.cell (p := ⟨bA, oA + k, none⟩) hbA).trans hcl
         obtain ⟨y0, hy0⟩ := list_get (k := 0) hfl2 (by omega)
         obtain ⟨bt, ot, rfl, hbt, _⟩ := hrow 0 _ (u8s_get hy0)
         have hbg : bt ≠ gB := by have := H35.out; omega
         have Hrt := hid (hrow.later Hbw.out)
         have Hlb := hid hfl2
         have X3 := hid (Blk.grown X6.out Hg3.out (fun e => by injection e with e; have := Hgl.out; omega))
         have xm8 : wy.cell? ⟨gm, 8, none⟩ = some (.int .i64 F) := (X3.out.cell 8).trans Hx8.out
         obtain ⟨P, hP⟩ : ∃ P, k * size = P := ⟨_, rfl⟩
         have hmul : (k : Int) * (size : Int) = (P : Int) := by rw [← hP]; push_cast; rfl
         rw [hP] at hfb1
         rw [hP] at hcs
         obtain ⟨O1, hO1⟩ : ∃ O1, F + P = O1 := ⟨_, rfl⟩
         have hOi : (F : Int) + (P : Int) = (O1 : Int) := by omega
         rw [hO1] at hfb1
         obtain ⟨X0, hX0⟩ : ∃ X0, lays (List.replicate N 0) (bldFs size PM FR p ++ bldF size x FR K k) = X0 := ⟨_, rfl⟩
         have hlen0 := HLs.out k hk
         rw [hX0] at Hy3 hlen0
         have Hy1 := hid (show lays (List.replicate N 0) (bldFs size PM FR p ++ bldF size x FR K (k + 1)) = putAt (putAt X0 O1 f) (S + 4 * k) (numB 4 (crcZ f).toNat) by
          rw [hcs, HFn.out, HSn.out, hO1, ← List.append_assoc, lays_app, hX0]
          rfl)
         have hcp : (Builtin.copy_ #[29, 29] 3 #[.slice (some ⟨gB, O1, none⟩) (N - O1) (N - O1), .slice (some ⟨bt, ot, none⟩) size c]).run Tryz.prog wy = _ := copy_bytes wy gB O1 (N - O1) (N - O1) bt ot size c X0 f Hy3.out Hlb.out (by omega) (by omega) Hrt.out _
         obtain ⟨w9, hw9⟩ : ∃ w9, wy.setRow gB (u8s (putAt X0 O1 f)).toArray = w9 := ⟨_, rfl⟩
         rw [hw9] at hcp
         have G79 := hid (show wy.grownBy w9 (some gB) by rw [← hw9]; exact grown_row2 (World.grownBy.refl _ _) _)
         have Y9 := hid (show BytesAt w9 gB (putAt X0 O1 f) by rw [← hw9]; exact bytes_row Hy3.out)
         have G9 := hid (grownBy_trans Hg3.out G79.out)
         have R9 := hid ((Hrt.out.aside (Nat.le_refl _) G79.out (fun ad ha => by injection ha with ha; subst ha; intro e; injection e with e; exact hbg e.symm)).more G79.out.size)
         have X9 := hid (Blk.grown X6.out G9.out (fun e => by injection e with e; have := Hgl.out; omega))
         have L9 := hid (show (putAt X0 O1 f).length = N by rw [putAt_len (by rw [Hlb.out, hlen0]; omega), hlen0])
         clear hw9 hX0 hP hO1 hcl hv hf hrow hy0 hcs hbt q1 q2 hfl2
         have y3 : ¬ (N = O1) := by omega
         have y4 : (0 : Int) ≤ (O1 : Int) := by omega
         have y5 : (O1 : Int) ≤ (N : Int) := by omega
         go_wp2_with fail
         clear hcp xm8
         have xm7 := fun (z : GW w9) => (show z.1.cell? ⟨gm, 7, none⟩ = some (.int .i64 S) from (z.2.cell (p := ⟨gm, 7, none⟩) X9.out.lt).trans ((X9.out.cell 7).trans Hx7.out))
         have HCr := hid (fun (z : GW w9) => (show Calls Tryz.prog 71 #[.slice (some ⟨bt, ot, none⟩) size c] z.1 (fun e w' => e = .returned (.int .u32 (crcZ f)) ∧ z.1 = w') from by
          have := crcSum_any f (some ⟨bt, ot, none⟩) c z.1 (by rw [Hlb.out]; omega) (R9.out.later z.2)
          rwa [Hlb.out] at this))
         have hcr := crcZ_bd f
         generalize crcZ f = C at *
         have hwC : IntKind.i64.wrap C = C := IntWalk.i64_in _ (by omega)
         obtain ⟨AT, hAT⟩ : ∃ AT, S + 4 * k = AT := ⟨_, rfl⟩
         have hATi : (S : Int) + 4 * (k : Int) = (AT : Int) := by omega
         rw [hAT] at hfb2 Hy1
         clear hAT
         refine wp_region_calm_tail 9 (by kernel_rfl) (by kernel_rfl) ?_
         simp only [List.take_succ_cons, List.take_zero, List.drop_succ_cons, List.drop_zero]
         repeat (go_big_quiet_step ((go_at_call 71; exact calm_same (HCr.out _))))
         refine wpQuiet_nil ?_
         intro w10 hw'
         have B10 := hid (gw_below hw')
         clear hw' xm7 HCr
         have Y10 := hid (Y9.out.below B10.out Y9.out.lt)
         have HN2 := hid (show Calls Tryz.prog 70 #[.slice (some ⟨gB, 0, none⟩) N N, .int .i64 AT, .int .i64 4, .int .i64 C] w10 (LaidPost w10 gB (putAt (putAt X0 O1 f) AT (numB 4 C.toNat))) from by
          have := number_int (putAt X0 O1 f) gB 0 N N AT 4 C w10 hcr.1 Y10.out (by rw [L9.out]; omega) (by omega) (by omega) (by omega)
          rwa [Nat.zero_add] at this)
         go_wp2_with (go_at_call 70; fail)
         refine HN2.out.mono ?_
         rintro e w11 ⟨rfl, hy11, hg11⟩
         have Y11 := hid hy11
         have G11 := hid (grownBy_trans (grownBy_below G9.out B10.out) hg11)
         clear hy11 hg11
         go_wp2
         go_roundw
         case rel => exact ⟨k + 1, by omega, by go_num, by rw [Hy1.out]; exact Y11.out, G11.out⟩
         case measure => first | (simp [intOf]; done) | (simp [intOf]; omega)
        ·have hkT : k = T := by omega
         subst hkT
         have t7 : ¬ ((k : Int) < (k : Int)) := by omega
         have Hy4 := hid (show BytesAt wy gB (lays (List.replicate N 0) (bldFs size PM FR (p + 1))) by rw [HBs1.out]; exact Hy3.out)
         have X3 := hid (Blk.grown X6.out Hg3.out (fun e => by injection e with e; have := Hgl.out; omega))
         have HG3 := hid (grownBy_trans G6.out Hg3.out)
         go_wp2_with (first | (refine wpList_load_row_w rfl 27 (.tmp 16) rfl gm rfl _ xc.toArray _ _ X3.out Tryz.underlying27 rfl HFz.out ?_) | (go_at_call 17; fail))
         refine (HFr.out _).mono ?_
         rintro e w7 ⟨rfl, hb7⟩
         have Y7 := hid (Hy4.out.below hb7 Hy4.out.lt)
         have G7 := hid (grownBy_below HG3.out hb7)
         have Hq := hid (show q - kOf D (p + 1) = q - K - k by rw [hkS]; omega)
         have Hrw2 := hid (show Row w w.heap.size (some ⟨bA, oA + k, none⟩) (vs.drop (kOf D (p + 1))) by
          have h := Hrw.out.drop_ k
          rw [List.drop_drop] at h
          rw [hkS]
          exact h)
         have Hdn := hid (fun (h : q - K - k = 0) => (show vs.drop (kOf D (p + 1)) = [] from List.drop_eq_nil_of_le (by rw [Hvl.out, hkS]; omega)))
         clear hb7 hkS Hy4 X3
         by_cases hcc : c' = k
         ·have y3 : q - K - k = 0 := by omega
          subst hcc
          go_wp2_with fail
          go_roundw
          case rel => exact ⟨p + 1, some ⟨bA, oA, none⟩, 0, by omega, by go_num, by rw [Hq.out, y3], by rw [Hq.out]; omega, by omega, by rw [Hdn.out y3]; exact Row.none_ _ _ _, Y7.out, G7.out⟩
          case measure => first | (simp [intOf]; done) | (simp [intOf]; omega)
         ·have y6 : ¬ (c' - k = 0) := by omega
          go_wp2_with fail
          go_roundw
          case rel => exact ⟨p + 1, some ⟨bA, oA + k, none⟩, c' - k, by omega, by go_num, by rw [Hq.out], by rw [Hq.out]; omega, by omega, Hrw2.out, Y7.out, G7.out⟩
          case measure => first | (simp [intOf]; done) | (simp [intOf]; omega)
      ·have hpm : p = m := by omega
       subst hpm
       have t5 : ¬ ((p : Int) < (p : Int)) := by omega
       have hlen : (lays (List.replicate N 0) (bldFs size PM FR p)).length = N := lays_len (by simp) (HFt.out p (Nat.le_refl _))
       have HHe := hid (show Calls Tryz.prog 72 #[.slice (some ⟨gB, 0, none⟩) N N, .slice A2 p c2, .int .i64 size] wx (LaidPost wx gB (bldZ size D FR)) from by
        have hr : Row wx wx.heap.size A2 (metaCells PM) := (RB.out.under HwB.out (Nat.le_refl _) Hgr.out).more (Nat.le_of_lt Hby.out.lt)
        have := head_any (lays (List.replicate N 0) (bldFs size PM FR p)) gB N N PM A2 c2 size wx Hby.out hlen (Nat.le_refl _) (by rw [HPl2.out]; omega) (by omega) (by rw [HPl2.out]; omega) (by omega) HHd.out hr (fun ad ha => by have := HA5.out ad ha; omega)
        rw [HPl2.out] at this
        rw [HZ2.out]
        exact this)
       clear hlen
       go_wp2_with (go_at_call 72; fail)
       refine HHe.out.mono ?_
       rintro e w9 ⟨rfl, hy9, hg9⟩
       have Hy9 := hid hy9
       have Hg9 := hid (grownBy_trans Hgr.out hg9)
       clear hy9 hg9
       go_wp2
       refine bodyPost_ret (results_tmp2 Tryz.results18 _ _ _) rfl ?_
       unfold BuildP
       rw [HnD.out, Hnf.out]
       exact ⟨HW.out _ Hg9.out, .inr (.inr ⟨HC.out, gB, by rw [HNN.out]; rfl, H35.out, Hy9.out⟩)⟩
end Go.Proofs.YtgcfkblmnpnogaaGreatDoor
namespace Go.Proofs.YtgcfkblmnpnogaaGreatDoor
open Go.RowKit Go.Lib
theorem Parse_built {size : Nat} {D : List MetaV} {FR : List (List Nat)} (h : CanB size D FR) (g : Nat) (w : World) (hb : BytesAt w g (bldZ size D FR)) :
  Calls Tryz.prog 19 #[.slice (some ⟨g, 0, none⟩) (bldN size D) (bldN size D)] w fun e w' => ∃ x, e = .returned (.tuple #[.pointer (some ⟨x, 0, none⟩), .int .i64 0]) ∧ w.heap.size ≤ x ∧ BankAt w' x (bldZ size D FR) size (bldDir size D) ∧ Below w.heap.size w w' := by
 have hl := h.len_bd
 refine (Parse_any (bldZ size D FR) (some ⟨g, 0, none⟩) (bldN size D) (bldN size D) w (bldZ_len h) (Nat.le_refl _) (by omega) (by omega) (fun h => by cases h) (bytes_at_row hb) (bldZ_byt h)).mono ?_
 rintro e w' (⟨h1, _⟩ | ⟨_, x, he, hx, hB, hbel⟩)
 ·exact absurd (bldZ_parse h) h1
 ·rw [bldZ_size h, bldZ_cnt h, bldZ_dir h] at hB
  exact ⟨x, he, hx, hB, hbel⟩
section
variable {size : Nat} {D : List MetaV} {FR : List (List Nat)}
theorem bldDir_at {m : Nat} {y : MetaV} (hy : D[m]? = some y) : metaI (bldDir size D) m = plc size D m y ∧ metaE (bldDir size D) m = 0 := by
 have hm := (List.getElem?_eq_some_iff.1 hy).1
 have hi : ¬ ((m : Int) < 0 ∨ ((bldDir size D).length : Int) ≤ (m : Int)) := by rw [bldDir_len]; omega
 constructor
 ·unfold metaI
  rw [if_neg hi, Int.toNat_natCast, List.getD_eq_getElem?_getD, bldDir_get hy]
  rfl
 ·unfold metaE
  rw [if_neg hi]
theorem bldDir_in {m : Nat} {y : MetaV} (hy : D[m]? = some y) {c b : Int} : whereE (bldDir size D) m c b = if c < 0 ∨ y.channels ≤ c ∨ b < 0 ∨ countZ y.length ≤ b then 5 else 0 := by
 obtain ⟨h1, h2⟩ := bldDir_at (size := size) hy
 unfold whereE
 rw [h1, h2, if_neg (by simp)]
 rfl
theorem CanB.asked (h : CanB size D FR) {m n c ch cz : Nat} {y : MetaV} (hy : D[m]? = some y) (hch : y.channels = ch) (hcz : countZ y.length = cz) (hn : n < cz) (hc : c < ch) :
  whereE (bldDir size D) m c n = 0 ∧ kOf D (m + 1) = kOf D m + cz * ch ∧ kOf D m + cz * ch ≤ FR.length ∧ n * ch + c < cz * ch ∧ ∃ f, FR[kOf D m + (n * ch + c)]? = some f ∧ f.length = size ∧ subB (bldZ size D FR) (whereAt (bldDir size D) size m c n).toNat size = f ∧ (whereSum (bldDir size D) (bldZ size D FR) m c n : Int) = crcZ f := by
 have hE : whereE (bldDir size D) m c n = 0 := by rw [bldDir_in hy, hch, hcz, if_neg (by omega)]
 have hx := bldDir_get (size := size) hy
 have hfr : framesN y = ((cz * ch : Nat) : Int) := by unfold framesN; rw [hch, hcz]; push_cast; rfl
 have hj : n * ch + c < cz * ch := by
  have := Nat.mul_le_mul_right ch (show n + 1 ≤ cz by omega)
  rw [Nat.succ_mul] at this
  omega
 have hk := kOf_succ hy
 rw [hfr, Int.toNat_natCast] at hk
 have hmo := kOf_mono D (show m + 1 ≤ D.length from (List.getElem?_eq_some_iff.1 hy).1)
 rw [h.cnt, hk] at hmo
 obtain ⟨f, hf⟩ : ∃ f, FR[kOf D m + (n * ch + c)]? = some f := ⟨_, List.getElem?_eq_getElem (by omega)⟩
 obtain ⟨h1, h2⟩ := h.frame_at hx (j := n * ch + c) (by rw [plc_frames, hfr]; omega) hf
 have hno : frameNo (bldDir size D) m c n = ((n * ch + c : Nat) : Int) := by
  unfold frameNo
  rw [(bldDir_at (size := size) hy).1]
  show (n : Int) * y.channels + (c : Int) = _
  rw [hch]
  push_cast; rfl
 have hmi := (bldDir_at (size := size) hy).1
 refine ⟨hE, hk, hmo, hj, f, hf, h.len f (List.mem_of_getElem? hf), ?_, ?_⟩
 ·unfold whereAt
  rw [if_pos hE, hno, hmi]
  exact h1
 ·unfold whereSum
  rw [if_pos hE, hno, hmi]
  exact h2
end
end Go.Proofs.YtgcfkblmnpnogaaGreatDoor
namespace Go.Proofs.YtgcfkblmnpnogaaGreatDoor
open Go.RowKit Go.Lib
section
variable {size : Nat} {SS : List SampV}
theorem kOf_pack (size : Nat) (SS : List SampV) : ∀ m, m ≤ SS.length → kOf (SS.map metaOf) m = (frTo size SS m).length
 | 0, _ => rfl
 | m + 1, hm => by
  obtain ⟨s, hs⟩ : ∃ s, SS[m]? = some s := ⟨_, List.getElem?_eq_getElem (by omega)⟩
  have hx : (SS.map metaOf)[m]? = some (metaOf s) := by rw [List.getElem?_map, hs]; rfl
  rw [kOf_succ hx, kOf_pack size SS m (by omega), framesN_nat, Int.toNat_natCast, frTo_succ hs, List.length_append, frS_len]
theorem CanP.frTo_mem (h : CanP size SS) : ∀ m, m ≤ SS.length → ∀ f ∈ frTo size SS m, f.length = size ∧ Byt f
 | 0, _, f, hf => by simp [frTo] at hf
 | m + 1, hm, f, hf => by
  obtain ⟨s, hs⟩ : ∃ s, SS[m]? = some s := ⟨_, List.getElem?_eq_getElem (by omega)⟩
  rw [frTo_succ hs] at hf
  rcases List.mem_append.1 hf with hf | hf
  ·exact h.frTo_mem m (by omega) f hf
  ·unfold frS at hf
   obtain ⟨q, hq, rfl⟩ := List.mem_map.1 hf
   obtain ⟨d, x, h1, h2, h3, h4, h5⟩ := h.frAt_eq hs (List.mem_range.1 hq)
   have hfine := h.fine s (List.mem_of_getElem? hs)
   have hRi := framesZ_right (hfine.good.2 d (List.mem_of_getElem? h2)).2 (size := (size : Int)) (by have := h.lo; omega) (by have := h.hi; omega) x (List.mem_of_getElem? h4)
   rw [h5]
   exact ⟨frameBytes_len hRi.1 hRi.2, frameBytes_byt x size⟩
theorem CanP.can (h : CanP size SS) : CanB size (SS.map metaOf) (frTo size SS SS.length) := by
 have hl : (SS.map metaOf).length = SS.length := List.length_map _
 refine ⟨h.lo, h.hi, by have := h.many; omega, fun x hx => ?_, fun m x y hx hy => ?_, by rw [hl]; exact kOf_pack size SS SS.length (Nat.le_refl _), fun f hf => (h.frTo_mem SS.length (Nat.le_refl _) f hf).1, fun f hf => (h.frTo_mem SS.length (Nat.le_refl _) f hf).2, ?_⟩
 ·obtain ⟨s, hs, rfl⟩ := List.mem_map.1 hx
  exact h.right s hs
 ·rw [List.getElem?_map] at hx hy
  cases hs1 : SS[m]? with
  | none => rw [hs1] at hx; cases hx
  | some s1 =>
   cases hs2 : SS[m + 1]? with
   | none => rw [hs2] at hy; cases hy
   | some s2 =>
    rw [hs1] at hx
    rw [hs2] at hy
    have hx : metaOf s1 = x := Option.some.inj hx
    have hy : metaOf s2 = y := Option.some.inj hy
    rw [← hx, ← hy]
    exact h.asc m s1 s2 hs1 hs2
 ·have h1 := h.len_eq
  have h2 := h.len_bd
  rw [hl, ← h1]
  omega
theorem bldN_pack (size : Nat) (SS : List SampV) : bldN size (SS.map metaOf) = packLen size SS := by
 unfold bldN packLen
 rw [List.length_map]
theorem bldDir_pack (size : Nat) (SS : List SampV) : bldDir size (SS.map metaOf) = packDir size SS := by
 unfold bldDir packDir
 rw [List.length_map]
theorem CanP.bld_eq (h : CanP size SS) : packZ size SS = bldZ size (SS.map metaOf) (frTo size SS SS.length) := by
 have h1 := h.law_eq
 have h2 := h.can.law_eq
 rw [bldN_pack, bldDir_pack] at h2
 rw [← h1, h2]
end
end Go.Proofs.YtgcfkblmnpnogaaGreatDoor
namespace Go.Proofs.YtgcfkblmnpnogaaGreatDoor
open Go.RowKit Go.Lib
def findN (D : List MetaV) (nm : ByteArray) : Nat := D.countP fun x => nameLt x.name nm
def findB (D : List MetaV) (nm : ByteArray) : Bool := match D[findN D nm]? with
 | some x => decide (compareBytes x.name.data.toList nm.data.toList = 0)
 | none => false
def AscN (D : List MetaV) : Prop := ∀ m x y, D[m]? = some x → D[m + 1]? = some y → nameLt x.name y.name = true
theorem ascN_lt {D : List MetaV} (h : AscN D) {i : Nat} {x : MetaV} (hx : D[i]? = some x) : ∀ (k : Nat) y, D[i + k + 1]? = some y → nameLt x.name y.name = true
 | 0, y, hy => h i x y hx hy
 | k + 1, y, hy => by
  have hk := (List.getElem?_eq_some_iff.1 hy).1
  obtain ⟨z, hz⟩ : ∃ z, D[i + k + 1]? = some z := ⟨_, List.getElem?_eq_getElem (by omega)⟩
  have h1 := ascN_lt h hx k z hz
  have h2 := h (i + k + 1) z y hz hy
  cases h3 : nameLt x.name y.name with
  | true => rfl
  | false =>
   exfalso
   have h4 := nameLt_n (a := z.name) (b := x.name) (c := y.name) (nameLt_asy h1) h3
   rw [h4] at h2
   cases h2
theorem ascN_mono {D : List MetaV} (h : AscN D) {nm : ByteArray} {a b : Nat} {x y : MetaV} (hab : a ≤ b) (hx : D[a]? = some x) (hy : D[b]? = some y) (hl : nameLt y.name nm = true) : nameLt x.name nm = true := by
 by_cases he : a = b
 ·subst he
  rw [hx] at hy
  injection hy with hy
  rw [hy]; exact hl
 ·have h1 := ascN_lt h hx (b - a - 1) y (by rw [show a + (b - a - 1) + 1 = b by omega]; exact hy)
  cases h3 : nameLt x.name nm with
  | true => rfl
  | false =>
   exfalso
   have h4 := nameLt_n (a := y.name) (b := x.name) (c := nm) (nameLt_asy h1) h3
   rw [h4] at hl
   cases hl
theorem findN_eq {D : List MetaV} {nm : ByteArray} {k : Nat} (hk : k ≤ D.length) (h1 : ∀ t x, t < k → D[t]? = some x → nameLt x.name nm = true) (h2 : ∀ t x, k ≤ t → D[t]? = some x → nameLt x.name nm = false) : findN D nm = k := by
 unfold findN
 have e : D = D.take k ++ D.drop k := (List.take_append_drop k D).symm
 rw [e, List.countP_append, List.countP_eq_length.2, List.countP_eq_zero.2, List.length_take, Nat.min_eq_left hk, Nat.add_zero]
 ·intro x hx
  obtain ⟨t, ht⟩ := List.getElem?_of_mem hx
  rw [List.getElem?_drop] at ht
  rw [h2 (k + t) x (by omega) ht]
  decide
 ·intro x hx
  obtain ⟨t, ht⟩ := List.getElem?_of_mem hx
  rw [List.getElem?_take] at ht
  split at ht
  ·rename_i htk
   exact h1 t x htk ht
  ·cases ht
theorem cmp_lt (x nm : ByteArray) : (compareBytes x.data.toList nm.data.toList < 0) ↔ nameLt x nm = true := by
 unfold nameLt
 rw [decide_eq_true_eq]
set_option maxRecDepth 100000 in
theorem find1_anyM (x : MetaV) (nm : ByteArray) (w : World) : Calls Tryz.prog 95 #[.agg x.cells.toArray, .string nm] w fun e w' => e = .returned (.int .i64 (compareBytes x.name.data.toList nm.data.toList)) ∧ Below w.heap.size w w' := by
 obtain ⟨n1, len, rate, ch, lp, f, t, sums, first⟩ := x
 simp only [MetaV.cells]
 have HC := hid (fun W => strings_Compare n1 nm W)
 generalize compareBytes n1.data.toList nm.data.toList = z at *
 go_enter Tryz.func95, Tryz.ntmps95
 go_wp2_with (go_at_call 96; refine (HC.out _).mono ?_; rintro e w' ⟨rfl, rfl⟩)
 go_ret
 exact ⟨rfl, bnew _ _⟩
set_option maxRecDepth 100000 in
set_option maxHeartbeats 4000000 in
theorem bsearch_any (D : List MetaV) (A : Option Addr) (cap : Nat) (nm : ByteArray) (w : World) (hD : D.length ≤ 64) (ha : AscN D) (hr : Row w w.heap.size A (metaCells D)) :
  Calls Tryz.prog 94 #[.slice A D.length cap, .string nm, .func (.func 95) #[] #[]] w fun e w' => e = .returned (.tuple #[.int .i64 (findN D nm), .bool (findB D nm)]) ∧ Below w.heap.size w w' := by
 have HM := hid (fun (a b : Nat) x y h1 h2 h3 h4 => ascN_mono (D := D) (nm := nm) ha (a := a) (b := b) (x := x) (y := y) h1 h2 h3 h4)
 have HE := hid (fun (k : Nat) h1 h2 h3 => findN_eq (D := D) (nm := nm) (k := k) h1 h2 h3)
 have HB := hid (show findB D nm = match D[findN D nm]? with | some x => decide (compareBytes x.name.data.toList nm.data.toList = 0) | none => false from rfl)
 have HF := hid (fun x W => find1_anyM x nm W)
 have Hr := hid hr
 have HI := hid (fun (x : MetaV) => (show (Tryz.prog.info? 27).map (·.size) = some x.cells.length from (show (Tryz.prog.info? 27).map (·.size) = some 9 by kernel_rfl)))
 obtain ⟨n, hn⟩ : ∃ n, D.length = n := ⟨_, rfl⟩
 rw [hn] at hD HE ⊢
 have Hn := hid hn
 clear ha hr hn
 go_enter Tryz.func94, Tryz.ntmps94
 go_wp2_with fail
 go_loopw [9, 10] (fun s9 s10 wr => ∃ lo hi : Nat, s9 = .int .i64 lo ∧ s10 = .int .i64 hi ∧ lo ≤ hi ∧ hi ≤ n ∧ (∀ t x, t < lo → D[t]? = some x → nameLt x.name nm = true) ∧ (∀ t x, hi ≤ t → D[t]? = some x → nameLt x.name nm = false) ∧ Below w.heap.size w wr) (fun s9 s10 _ => (intOf s10 - intOf s9).toNat)
 case atStart => exact ⟨0, n, rfl, rfl, by omega, by omega, fun t x h => absurd h (Nat.not_lt_zero _), fun t x h1 h2 => absurd (List.getElem?_eq_some_iff.1 h2).1 (by rw [Hn.out]; omega), Below.refl _ _⟩
 case round =>
  obtain ⟨lo, hi, rfl, rfl, hlh, hin, q1, q2, hbel⟩ := hrel
  have Hbel := hid hbel
  have Q1 := hid q1
  have Q2 := hid q2
  clear hbel q1 q2
  by_cases hlt : lo < hi
  ·have t1 : (lo : Int) < (hi : Int) := by omega
   obtain ⟨mid, hmid⟩ : ∃ mid, (lo + hi) / 2 = mid := ⟨_, rfl⟩
   have hm1 : ((lo : Int) + (hi : Int)) / 2 = (mid : Int) := by omega
   have t2 : (mid : Int) < (n : Int) := by omega
   have t3 : (0 : Int) ≤ (mid : Int) := by omega
   obtain ⟨x, hx⟩ := list_get (k := mid) Hn.out (by omega)
   obtain ⟨b, off, rfl, hbl, hcl⟩ := meta_at (Hr.out.later Hbel.out) hx
   have HX := hid hcl
   have Hx := hid hx
   have HF1 := hid (HF.out x)
   have HI1 := hid (HI.out x)
   obtain ⟨c, hc⟩ : ∃ c, compareBytes x.name.data.toList nm.data.toList = c := ⟨_, rfl⟩
   have hcl2 := cmp_lt x.name nm
   rw [hc] at HF1 hcl2
   generalize x.cells = xc at *
   clear hcl hx hc
   have t4 : ((lo : Int) + (hi : Int)) ≤ 128 := by omega
   by_cases hneg : c < 0
   ·have hln := hid (hcl2.1 hneg)
    clear hcl2
    go_wp2_with (first | (refine wpList_load_part_w rfl 27 (.tmp 27) rfl b (off + mid * 9) rfl xc _ HX.out Tryz.underlying27 rfl HI1.out ?_) | (go_at_call 95; fail))
    refine (HF1.out _).mono ?_
    rintro e w7 ⟨rfl, hb7⟩
    go_wp2
    have E7 := hid (bnext Hbel.out hb7)
    go_roundw
    case rel => exact ⟨mid + 1, hi, by go_num, rfl, by omega, hin, fun t x' ht hx' => HM.out t mid x' x (by omega) hx' Hx.out hln.out, Q2.out, E7.out⟩
    case measure => simp [intOf]; omega
   ·have hln := hid (show nameLt x.name nm = false from by
     cases h : nameLt x.name nm with
     | false => rfl
     | true => exact absurd (hcl2.2 h) hneg)
    clear hcl2
    go_wp2_with (first | (refine wpList_load_part_w rfl 27 (.tmp 27) rfl b (off + mid * 9) rfl xc _ HX.out Tryz.underlying27 rfl HI1.out ?_) | (go_at_call 95; fail))
    refine (HF1.out _).mono ?_
    rintro e w7 ⟨rfl, hb7⟩
    go_wp2
    have E7 := hid (bnext Hbel.out hb7)
    go_roundw
    case rel => exact ⟨lo, mid, rfl, by go_num, by omega, by omega, Q1.out, fun t x' ht hx' => (by
     cases h : nameLt x'.name nm with
     | false => rfl
     | true =>
      have := HM.out mid t x x' ht Hx.out hx' h
      rw [hln.out] at this
      cases this), E7.out⟩
    case measure => simp [intOf]; omega
  ·have hlo : hi = lo := by omega
   subst hlo
   have t1 : ¬ ((hi : Int) < (hi : Int)) := by omega
   have hfn := HE.out hi hin Q1.out Q2.out
   have hfb := HB.out
   rw [hfn] at hfb
   by_cases hn : hi < n
   ·have t2 : (hi : Int) < (n : Int) := by omega
    have t3 : (0 : Int) ≤ (hi : Int) := by omega
    obtain ⟨x, hx⟩ := list_get (k := hi) Hn.out hn
    rw [hx] at hfb
    have hfb : findB D nm = decide (compareBytes x.name.data.toList nm.data.toList = 0) := hfb
    obtain ⟨b, off, rfl, hbl, hcl⟩ := meta_at (Hr.out.later Hbel.out) hx
    have HX := hid hcl
    have HF1 := hid (HF.out x)
    have HI1 := hid (HI.out x)
    generalize compareBytes x.name.data.toList nm.data.toList = c at *
    generalize x.cells = xc at *
    obtain ⟨qb, hqb⟩ : ∃ qb, (c == 0) = qb := ⟨_, rfl⟩
    have Hfb := hid (show findB D nm = qb by rw [hfb, ← hqb]; rfl)
    have Hfn := hid hfn
    clear hcl hx hfb hfn hbl
    go_wp2_with (first | (refine wpList_load_part_w rfl 27 (.tmp 43) rfl b (off + hi * 9) rfl xc _ HX.out Tryz.underlying27 rfl HI1.out ?_) | (go_at_call 95; fail))
    refine (HF1.out _).mono ?_
    rintro e w7 ⟨rfl, hb7⟩
    go_wp2
    refine bodyPost_ret (results_tmp2 Tryz.results94 _ _ _) rfl ?_
    exact ⟨by rw [Hfn.out, Hfb.out]; rfl, bnext Hbel.out hb7⟩
   ·have hnn : hi = n := by omega
    subst hnn
    rw [List.getElem?_eq_none (by rw [Hn.out]; exact Nat.le_refl _)] at hfb
    have Hfb := hid (show findB D nm = false from hfb)
    have Hfn := hid hfn
    clear hfb hfn
    go_wp2_with fail
    refine bodyPost_ret (results_tmp2 Tryz.results94 _ _ _) rfl ?_
    exact ⟨by rw [Hfn.out, Hfb.out]; rfl, Hbel.out⟩
theorem Find_any (g size : Nat) (bs : List Nat) (D : List MetaV) (nm : ByteArray) (w : World) (h : BankAt w g bs size D) (hs : 0 < size) (hD : D.length ≤ 64) (ha : AscN D) :
  Calls Tryz.prog 33 #[.pointer (some ⟨g, 0, none⟩), .string nm] w fun e w' => e = .returned (.tuple #[.int .i64 (findN D nm), .bool (findB D nm)]) ∧ Below w.heap.size w w' := by
 have HN := hid (none_at h hs)
 obtain ⟨Ai, ci, Ad, cd, h1, _, h3, _⟩ := h.at_
 have c2 := blk_cells (show Blk w g 130 [.slice Ai bs.length ci, .int .i64 size, .slice Ad D.length cd] from h1) 2
 have HB := hid (bsearch_any D Ad cd nm w hD ha h3)
 generalize D.length = n at *
 clear h1 h h3
 go_enter Tryz.func33, Tryz.ntmps33
 go_wp2_with (first | (go_at_call 84; refine HN.out.mono ?_; rintro e w2 ⟨rfl, rfl⟩) | (go_at_call 94; fail))
 refine HB.out.mono ?_
 rintro e w2 ⟨rfl, hb2⟩
 go_wp2
 refine bodyPost_ret (results_tmp2 Tryz.results33 _ _ _) rfl ?_
 exact ⟨rfl, hb2⟩
end Go.Proofs.YtgcfkblmnpnogaaGreatDoor
namespace Go.Proofs.YtgcfkblmnpnogaaGreatDoor
open Go.RowKit Go.Lib
structure RawV where
 m : MetaV
 fs : List (List Nat)
structure HRaw where
 a : Option Addr
 c : Nat
def rawC (p : HRaw × RawV) : List Value := p.2.m.cells ++ [.slice p.1.a p.2.fs.length p.1.c]
def rawsC (L : List (HRaw × RawV)) : List Value := (L.map rawC).flatten
theorem rawC_len (p : HRaw × RawV) : (rawC p).length = 10 := rfl
theorem rawsC_snoc (L : List (HRaw × RawV)) (p : HRaw × RawV) : rawsC (L ++ [p]) = rawsC L ++ rawC p := by simp [rawsC]
theorem rawsC_app (L M : List (HRaw × RawV)) : rawsC (L ++ M) = rawsC L ++ rawsC M := by simp [rawsC]
theorem rawsC_get (L : List (HRaw × RawV)) {k : Nat} {p : HRaw × RawV} (h : L[k]? = some p) (j : Nat) (hj : j < 10) : (rawsC L)[k * 10 + j]? = (rawC p)[j]? := by
 unfold rawsC
 rw [flat_get 10 (L.map rawC) (fun cs hcs => by obtain ⟨z, _, rfl⟩ := List.mem_map.1 hcs; rfl) k j hj]
 simp [h]
theorem rawsC_len (L : List (HRaw × RawV)) : (rawsC L).length = L.length * 10 := by
 induction L with
 | nil => rfl
 | cons p r ih =>
  show (rawC p ++ rawsC r).length = _
  rw [List.length_append, ih, rawC_len, List.length_cons, Nat.succ_mul, Nat.add_comm]
theorem raw_at {w : World} {B : Nat} {A : Option Addr} {L : List (HRaw × RawV)} (hr : Row w B A (rawsC L)) {k : Nat} {p : HRaw × RawV} (h : L[k]? = some p) :
  ∃ b off, A = some ⟨b, off, none⟩ ∧ b < B ∧ ∀ j v, (rawC p)[j]? = some v → w.cell? ⟨b, off + k * 10 + j, none⟩ = some v := by
 have h0 := rawsC_get L h 0 (by omega)
 obtain ⟨b, off, hA, hb, _⟩ := hr (k * 10 + 0) (.string p.2.m.name) h0
 refine ⟨b, off, hA, hb, fun j v hv => ?_⟩
 have hj : j < 10 := by have := (List.getElem?_eq_some_iff.1 hv).1; rwa [rawC_len] at this
 have h1 := rawsC_get L h j hj
 rw [hv] at h1
 obtain ⟨b', off', hA', _, hc⟩ := hr (k * 10 + j) v h1
 rw [hA] at hA'
 injection hA' with hA'
 injection hA' with e1 e2
 subst e1 e2
 rw [Nat.add_assoc]; exact hc
theorem rawC_one (p : HRaw × RawV) : ∀ u ∈ rawC p, u.oneCell' = true := by
 intro u hu
 unfold rawC at hu
 rcases List.mem_append.1 hu with h | h
 ·exact meta_one p.2.m u h
 ·rw [List.mem_singleton] at h; rw [h]; rfl
theorem rawsC_one (L : List (HRaw × RawV)) : ∀ u ∈ rawsC L, u.oneCell' = true := by
 intro u hu
 unfold rawsC at hu
 obtain ⟨cs, hcs, hu⟩ := List.mem_flatten.1 hu
 obtain ⟨z, _, rfl⟩ := List.mem_map.1 hcs
 exact rawC_one z u hu
theorem raw_info : ∃ i, Tryz.prog.info? 149 = some i ∧ (∃ z, i.zero = some z ∧ z.cells.size = 10) ∧ i.size = 10 ∧ i.bytes = 104 := by
 have h : (Tryz.prog.info? 149).map (fun i => (i.zero.map (fun z => z.cells.size), i.size, i.bytes)) = some (some 10, 10, 104) := by kernel_rfl
 cases hi : Tryz.prog.info? 149 with
 | none => rw [hi] at h; cases h
 | some i =>
  rw [hi] at h
  simp at h
  obtain ⟨⟨z, h1, h2⟩, h3, h4⟩ := h
  exact ⟨i, rfl, ⟨z, h1, h2⟩, h3, h4⟩
theorem inf_raw : (Tryz.prog.info? 149).map (·.size) = some 10 := by kernel_rfl
theorem own_far {w : World} {base base' size size' n n' : Nat} {e e' : TypeId} {v V : Value} {xs xs' : List Value} (h : w.ownsRow base e size v n xs) (k : w.ownsRow base' e' size' V n' xs') (he : e ≠ e') : v.ownBlock = none ∨ v.ownBlock ≠ V.ownBlock := by
 rcases h.2 with ⟨rfl, _⟩ | ⟨g, cap, cur, rfl, _, hg, _⟩
 ·exact .inl rfl
 ·right
  have := own_ne k hg he
  exact this
theorem own_base {w : World} {base base' size n : Nat} {e : TypeId} {v : Value} {xs : List Value} (h : w.ownsRow base e size v n xs) (hb : base' ≤ base) : w.ownsRow base' e size v n xs := by
 refine ⟨h.1, ?_⟩
 rcases h.2 with h1 | ⟨g, cap, cur, h1, h2, h3⟩
 ·exact .inl h1
 ·exact .inr ⟨g, cap, cur, h1, Nat.le_trans hb h2, h3⟩
structure FsAt (w : World) (base : Nat) (A : Option Addr) (c : Nat) (FR : List (List Nat)) (vs : List Value) : Prop where
 len : vs.length = FR.length
 own : w.ownsRow base 29 1 (.slice A FR.length c) FR.length vs
 each : ∀ (j : Nat) v f, vs[j]? = some v → FR[j]? = some f → ∃ a k, v = .slice a f.length k ∧ f.length ≤ k ∧ k ≤ 9223372036854775807 ∧ w.ownsRow 0 5 1 (.slice a f.length k) f.length (u8s f)
theorem FsAt.nil (w : World) (base : Nat) : FsAt w base none 0 [] [] := ⟨rfl, World.ownsRow_nil _ _ _ _, fun j v f h => by simp at h⟩
theorem FsAt.below {w w' : World} {base : Nat} {A : Option Addr} {c : Nat} {FR : List (List Nat)} {vs : List Value} (h : FsAt w base A c FR vs) (hb : Below w.heap.size w w') : FsAt w' base A c FR vs :=
 ⟨h.len, own_below h.own hb, fun j v f h1 h2 => by
  obtain ⟨a, k, e, h3, h4, h5⟩ := h.each j v f h1 h2
  exact ⟨a, k, e, h3, h4, own_below h5 hb⟩⟩
theorem FsAt.far {w w' : World} {base base' size n : Nat} {A : Option Addr} {c : Nat} {FR : List (List Nat)} {vs xs : List Value} {e : TypeId} {V : Value} (h : FsAt w base A c FR vs) (k : w.ownsRow base' e size V n xs) (h1 : 29 ≠ e) (h2 : 5 ≠ e) (hg : w.grownBy w' V.ownBlock) : FsAt w' base A c FR vs :=
 ⟨h.len, h.own.kept hg (own_far h.own k h1), fun j v f q1 q2 => by
  obtain ⟨a, k', e, h3, h4, h5⟩ := h.each j v f q1 q2
  exact ⟨a, k', e, h3, h4, h5.kept hg (own_far h5 k h2)⟩⟩
theorem FsAt.push {w w' : World} {base : Nat} {A : Option Addr} {c : Nat} {FR : List (List Nat)} {vs : List Value} (h : FsAt w base A c FR vs) {f : List Nat} {a : Option Addr} {k : Nat} (h1 : f.length ≤ k) (h2 : k ≤ 9223372036854775807) (hf : w.ownsRow 0 5 1 (.slice a f.length k) f.length (u8s f)) {A' : Option Addr} {c' : Nat}
  (hown : w'.ownsRow base 29 1 (.slice A' (FR.length + 1) c') (FR.length + 1) (vs ++ [.slice a f.length k])) (hg : w.grownBy w' (Value.slice A FR.length c).ownBlock) : FsAt w' base A' c' (FR ++ [f]) (vs ++ [.slice a f.length k]) := by
 have hl : (FR ++ [f]).length = FR.length + 1 := by simp
 refine ⟨by rw [List.length_append, h.len, hl]; rfl, by rw [hl]; exact hown, fun j v g hj1 hj2 => ?_⟩
 by_cases hj : j < FR.length
 ·rw [List.getElem?_append_left (by rw [h.len]; exact hj)] at hj1
  rw [List.getElem?_append_left hj] at hj2
  obtain ⟨a', k', e, h3, h4, h5⟩ := h.each j v g hj1 hj2
  exact ⟨a', k', e, h3, h4, h5.kept hg (own_far h5 h.own (by decide))⟩
 ·have hj3 : j = FR.length := by
   have := (List.getElem?_eq_some_iff.1 hj2).1
   rw [hl] at this
   omega
  subst hj3
  rw [List.getElem?_append_right (by rw [h.len]; exact Nat.le_refl _), h.len, Nat.sub_self] at hj1
  rw [List.getElem?_append_right (Nat.le_refl _), Nat.sub_self] at hj2
  injection hj1 with hj1
  injection hj2 with hj2
  subst hj1 hj2
  exact ⟨a, k, rfl, h1, h2, hf.kept hg (own_far hf h.own (by decide))⟩
theorem FsAt.rows {w : World} {base : Nat} {A : Option Addr} {c : Nat} {FR : List (List Nat)} {vs : List Value} (h : FsAt w base A c FR vs) : BRows w w.heap.size A FR :=
 ⟨vs, h.len, Row.of_own h.own, fun j v f h1 h2 => by
  obtain ⟨a, k, e, h3, h4, h5⟩ := h.each j v f h1 h2
  exact ⟨a, k, e, h3, h4, Row.of_own h5⟩⟩
def RawAt (w : World) (p : HRaw × RawV) : Prop := ∃ vs, FsAt w 0 p.1.a p.1.c p.2.fs vs
theorem RawAt.below {w w' : World} {p : HRaw × RawV} (h : RawAt w p) (hb : Below w.heap.size w w') : RawAt w' p := by
 obtain ⟨vs, h⟩ := h
 exact ⟨vs, h.below hb⟩
theorem RawAt.far {w w' : World} {base size n : Nat} {p : HRaw × RawV} {xs : List Value} {e : TypeId} {V : Value} (h : RawAt w p) (k : w.ownsRow base e size V n xs) (h1 : 29 ≠ e) (h2 : 5 ≠ e) (hg : w.grownBy w' V.ownBlock) : RawAt w' p := by
 obtain ⟨vs, h⟩ := h
 exact ⟨vs, h.far k h1 h2 hg⟩
structure RawsAt (w : World) (base : Nat) (A : Option Addr) (c : Nat) (L : List (HRaw × RawV)) : Prop where
 own : w.ownsRow base 149 10 (.slice A L.length c) L.length (rawsC L)
 each : ∀ p ∈ L, RawAt w p
theorem RawsAt.below {w w' : World} {base : Nat} {A : Option Addr} {c : Nat} {L : List (HRaw × RawV)} (h : RawsAt w base A c L) (hb : Below w.heap.size w w') : RawsAt w' base A c L :=
 ⟨own_below h.own hb, fun p hp => (h.each p hp).below hb⟩
/-! The samples of a built image. -/
def allZ (size : Nat) (D : List MetaV) (FR : List (List Nat)) : Nat → List RawV
 | 0 => []
 | m + 1 => allZ size D FR m ++ match (bldDir size D)[m]? with
  | some x => [⟨x, (FR.drop (kOf D m)).take (framesN x).toNat⟩]
  | none => []
theorem allZ_succ {size : Nat} {D : List MetaV} {FR : List (List Nat)} {m : Nat} {x : MetaV} (h : (bldDir size D)[m]? = some x) : allZ size D FR (m + 1) = allZ size D FR m ++ [⟨x, (FR.drop (kOf D m)).take (framesN x).toNat⟩] := by
 show allZ size D FR m ++ (match (bldDir size D)[m]? with | some x => _ | none => _) = _
 rw [h]
theorem allZ_len (size : Nat) (D : List MetaV) (FR : List (List Nat)) : ∀ m, m ≤ D.length → (allZ size D FR m).length = m
 | 0, _ => rfl
 | m + 1, hm => by
  obtain ⟨x, hx⟩ : ∃ x, (bldDir size D)[m]? = some x := ⟨_, List.getElem?_eq_getElem (by rw [bldDir_len]; omega)⟩
  rw [allZ_succ hx, List.length_append, allZ_len size D FR m (by omega)]
  rfl
theorem allZ_get (size : Nat) (D : List MetaV) (FR : List (List Nat)) {i : Nat} {x : MetaV} (hx : (bldDir size D)[i]? = some x) : ∀ m, i < m → m ≤ D.length → (allZ size D FR m)[i]? = some ⟨x, (FR.drop (kOf D i)).take (framesN x).toNat⟩
 | 0, h, _ => by omega
 | m + 1, h, hm => by
  obtain ⟨y, hy⟩ : ∃ y, (bldDir size D)[m]? = some y := ⟨_, List.getElem?_eq_getElem (by rw [bldDir_len]; omega)⟩
  have hl := allZ_len size D FR m (by omega)
  rw [allZ_succ hy]
  by_cases him : i = m
  ·subst him
   rw [hx] at hy
   injection hy with hy
   subst hy
   rw [List.getElem?_append_right (by omega), hl, Nat.sub_self]
   rfl
  ·rw [List.getElem?_append_left (by omega)]
   exact allZ_get size D FR hx m (by omega) (by omega)
end Go.Proofs.YtgcfkblmnpnogaaGreatDoor
namespace Go.Proofs.YtgcfkblmnpnogaaGreatDoor
open Go.RowKit Go.Lib
set_option maxRecDepth 100000 in
set_option maxHeartbeats 16000000 in
theorem Bytes_own (g size : Nat) (bs : List Nat) (D : List MetaV) (i c b : Int) (w : World) (h : BankAt w g bs size D) (hf : FitB bs size D) (hE : whereE D i c b = 0) :
  Calls Tryz.prog 21 #[.pointer (some ⟨g, 0, none⟩), .int .i64 i, .int .i64 c, .int .i64 b] w fun e w' => ∃ A c', e = .returned (.tuple #[.slice A size c', .int .i64 0]) ∧ size ≤ c' ∧ c' ≤ 9223372036854775807 ∧ w'.ownsRow 0 5 1 (.slice A size c') size (u8s (subB bs (whereAt D size i c b).toNat size)) ∧ Below w.heap.size w w' := by
 have HW := hid (Where_any g size bs D i c b w h hf)
 unfold WherePost at HW
 obtain ⟨x, hxD, hxe, chN, cn, bn, S, F, q, P, e1, rfl, rfl, e2, e3, hm1, hq, hP, hm2, l1, l2, _, b0, b1, hbc⟩ := where_lies hf hE
 have hA : whereAt D size i cn bn = ((F + P : Nat) : Int) := by
  unfold whereAt frameNo
  rw [if_pos hE, hxe, e1, e3, hm1, ← Int.natCast_add, hq, hm2]
  push_cast; rfl
 have hVb : whereSum D bs i cn bn < 4294967296 := by
  rw [show whereSum D bs i cn bn = readTo bs ((metaI D i).sums + 4 * frameNo D i cn bn).toNat 4 from if_pos hE]
  exact readTo_lt hf.byt _ 4
 rw [hA, hE] at HW
 obtain ⟨V, hV⟩ : ∃ V, whereSum D bs i cn bn = V := ⟨_, rfl⟩
 rw [hV] at HW hVb
 have HEn := hid hE
 obtain ⟨AT, hAT⟩ : ∃ AT, F + P = AT := ⟨_, rfl⟩
 rw [hAT] at HW hA l2
 have HAn := hid (show (whereAt D size i cn bn).toNat = AT by rw [hA]; rfl)
 rw [HAn.out]
 have hln := hf.long
 have hlo := hf.lo
 have hhi := hf.hi
 obtain ⟨Ai, ci, Ad, cd, h1, h2, _, h4, h5, _, _, _, _⟩ := h.at_
 obtain ⟨y0, hy0⟩ : ∃ y0, bs[0]? = some y0 := ⟨_, List.getElem?_eq_getElem (by omega)⟩
 obtain ⟨gi, off, rfl, _, _⟩ := h2 0 _ (u8s_get hy0)
 have HXc := hid (fun W (hW : Below w.heap.size w W) j v (hv : ([.slice (some ⟨gi, off, none⟩) bs.length ci, .int .i64 size, .slice Ad D.length cd] : List Value)[j]? = some v) => (show W.cell? ⟨g, j, none⟩ = some v from by
  have hB : Blk w g 130 [.slice (some ⟨gi, off, none⟩) bs.length ci, .int .i64 size, .slice Ad D.length cd] := h1
  rw [blk_cells (hB.below hW hB.lt) j]; exact hv))
 have HCl := hid (fun W (hW : Below w.heap.size w W) => (show Calls Tryz.prog 75 #[.slice (some ⟨gi, off + AT, none⟩) size (ci - AT)] W (CopyP W 5 1 size (u8s (subB bs AT size))) from by
  have hr := (((h2.later hW).drop_ AT).take size)
  rw [u8s_drop, u8s_take, subB_drop (by omega)] at hr
  exact cloneB_any (subB bs AT size) (some ⟨gi, off + AT, none⟩) size (ci - AT) W (subB_len _ _ _) (by omega) nofun hr))
 clear hE hxe hf h h1 h2 hxD hV hA e1 e2 e3 hm1 hq hP hm2 hAT hy0 b1 b0 HAn hbc l1
 generalize whereE D i cn bn = E at *
 generalize bs.length = n at *
 generalize D.length = dn at *
 have k1 : AT + size ≤ n := by omega
 have k2 : n ≤ ci := by omega
 have hati : (AT : Int) + (size : Int) = ((AT + size : Nat) : Int) := by push_cast; rfl
 have Hati := hid hati
 clear hati l2
 go_enter Tryz.func21, Tryz.ntmps21
 go_wp2_with (go_at_call 56; fail)
 refine HW.out.mono ?_
 rintro e w2 ⟨rfl, hb2⟩
 have B2 := hid hb2
 clear hb2
 go_wp2_with fail
 have x0 := fun (z : GW w2) => HXc.out z.1 (bnext B2.out z.2) 0 _ rfl
 have x1 := fun (z : GW w2) => HXc.out z.1 (bnext B2.out z.2) 1 _ rfl
 refine wp_region_calm_tail 12 (by kernel_rfl) (by kernel_rfl) ?_
 simp only [List.take_succ_cons, List.take_zero, List.drop_succ_cons, List.drop_zero]
 repeat (go_big_quiet_step (fail))
 refine wpQuiet_nil ?_
 intro w5 hw'
 have B5 := hid (gw_below hw')
 clear hw' x0 x1
 have HC5 := hid (HCl.out w5 (bnext B2.out B5.out))
 go_wp2_with (go_at_call 75; fail)
 refine HC5.out.mono ?_
 rintro e w6 ⟨A6, c6, rfl, h6c, h6m, h6n, hown, hb6⟩
 have R6 := hid (own_base hown (Nat.zero_le _))
 clear hown
 go_wp2
 refine bodyPost_ret (results_tmp2 Tryz.results21 _ _ _) rfl ?_
 exact ⟨A6, c6, rfl, h6c, h6m, R6.out, bnext (bnext B2.out B5.out) hb6⟩
theorem inf_row8 : (Tryz.prog.info? 29).map (fun i => (i.zero, i.size, i.bytes)) = some (some (.slice none 0 0), 1, 24) := by kernel_rfl
theorem FsAt.blk {w w' : World} {base g : Nat} {A : Option Addr} {c : Nat} {FR : List (List Nat)} {vs cs : List Value} {T : TypeId} (h : FsAt w base A c FR vs) (k : Blk w g T cs) (h1 : T ≠ 29) (h2 : T ≠ 5) (hg : w.grownBy w' (some g)) : FsAt w' base A c FR vs :=
 ⟨h.len, h.own.kept hg (.inr (own_ne h.own k h1).symm), fun j v f q1 q2 => by
  obtain ⟨a, k', e, h3, h4, h5⟩ := h.each j v f q1 q2
  exact ⟨a, k', e, h3, h4, h5.kept hg (.inr (own_ne h5 k h2).symm)⟩⟩
theorem RawAt.blk {w w' : World} {g : Nat} {p : HRaw × RawV} {cs : List Value} {T : TypeId} (h : RawAt w p) (k : Blk w g T cs) (h1 : T ≠ 29) (h2 : T ≠ 5) (hg : w.grownBy w' (some g)) : RawAt w' p := by
 obtain ⟨vs, h⟩ := h
 exact ⟨vs, h.blk k h1 h2 hg⟩
theorem grownBy_new {a w w' : World} {r row : Option Nat} (h : a.grownBy w r) (k : w.grownBy w' row) (hr : ∀ j, row = some j → a.heap.size ≤ j) : a.grownBy w' r :=
 ⟨k.os.trans h.os, k.tape.trans h.tape, k.output.trans h.output, Nat.le_trans h.size k.size, fun j hj hne => (k.block j (by have := h.size; omega) (fun e => by have := hr j e.symm; omega)).trans (h.block j hj hne)⟩
theorem kOf_at {size : Nat} {D : List MetaV} (hL : ∀ x ∈ D, GenM x) : ∀ m, m ≤ D.length → ((size * kOf D m : Nat) : Int) ≤ atTo size D m
 | 0, _ => by
  unfold atTo kOf
  rw [Nat.mul_zero]
  omega
 | m + 1, hm => by
  obtain ⟨x, hx⟩ : ∃ x, D[m]? = some x := ⟨_, List.getElem?_eq_getElem (by omega)⟩
  have ih := kOf_at (size := size) hL m (by omega)
  have hF := (hL x (List.mem_of_getElem? hx)).fr
  obtain ⟨F, hFn⟩ := Int.eq_ofNat_of_zero_le hF.1
  have hg := upZ16_ge (atTo size D m + 4 * framesN x)
  rw [atTo_succ hx, kOf_succ hx, hFn, Int.toNat_natCast, Nat.mul_add]
  rw [hFn] at hg
  have e : ((size * F : Nat) : Int) = (size : Int) * (F : Int) := by push_cast; rfl
  generalize (size : Int) * (F : Int) = P at *
  generalize size * F = Q at *
  generalize size * kOf D m = R at *
  push_cast
  omega
theorem CanB.few {size : Nat} {D : List MetaV} {FR : List (List Nat)} (h : CanB size D FR) : FR.length ≤ 400000 := by
 have h1 := kOf_at (size := size) h.gen D.length (Nat.le_refl _)
 have h2 := (h.bd D.length (Nat.le_refl _)).2
 rw [h.cnt] at h1
 have h3 := Nat.mul_le_mul_right FR.length h.lo
 generalize size * FR.length = Q at *
 omega
def AllP (w : World) (Z : List RawV) (e : Ending) (w' : World) : Prop := ∃ A c L, e = .returned (.slice A (List.length L) c) ∧ List.map Prod.snd L = Z ∧ RawsAt w' w.heap.size A c L ∧ Below w.heap.size w w'
set_option maxRecDepth 100000 in
set_option maxHeartbeats 16000000 in
theorem all_any {size : Nat} {D : List MetaV} {FR : List (List Nat)} (hC : CanB size D FR) (g : Nat) (w : World) (hB : BankAt w g (bldZ size D FR) size (bldDir size D)) :
  Calls Tryz.prog 89 #[.pointer (some ⟨g, 0, none⟩)] w (AllP w (allZ size D FR D.length)) := by
 obtain ⟨i0, hi, ⟨z0, hz0, hz0s⟩, hi1, hi2⟩ := raw_info
 obtain ⟨iB, hiB, hzB0, hzB1, hzB2⟩ := info_parts inf_row8
 have HDi := hid (BDir_any hB (by have := hC.lo; omega) (by rw [bldDir_len]; exact hC.many))
 have HBy := hid (fun W i c b (hW : Below w.heap.size w W) hE => Bytes_own g size (bldZ size D FR) (bldDir size D) i c b W (hB.later hW) hC.fit hE)
 have HAs := hid (fun (m n c ch cz : Nat) (y : MetaV) a1 a2 a3 a4 a5 => hC.asked (m := m) (n := n) (c := c) (ch := ch) (cz := cz) (y := y) a1 a2 a3 a4 a5)
 have HRt := hid (fun x (h : x ∈ bldDir size D) => (hC.goodE x h).2)
 have HZs := hid (fun (m : Nat) x (h : (bldDir size D)[m]? = some x) => allZ_succ (FR := FR) h)
 have HZ0 := hid (show allZ size D FR 0 = [] from rfl)
 have HPg := hid (fun (m : Nat) y (h : D[m]? = some y) => bldDir_get (size := size) h)
 have Hlen := hid hC.len
 have HBk := hid hB
 have hlo := hC.lo
 have hhi := hC.hi
 have hmany := hC.many
 have HkL := hid (fun m x (h : (bldDir size D)[m]? = some x) => hC.at_ h)
 have HFl := hid hC.few
 rw [bldDir_len] at HDi
 have HPl := hid (bldDir_len size D)
 obtain ⟨nD, hnD⟩ : ∃ n, D.length = n := ⟨_, rfl⟩
 rw [hnD] at HDi HPl hmany ⊢
 have HnD := hid hnD
 generalize bldZ size D FR = Z at *
 generalize bldDir size D = PM at *
 clear hB hC hnD
 go_enter Tryz.func89, Tryz.ntmps89
 go_wp2_with (go_at_call 24; fail)
 refine HDi.out.mono ?_
 rintro e w1 ⟨Ad, cd, rfl, _, _, _, hown, hb1⟩
 have B1 := hid hb1
 have RD := hid (Row.of_own hown)
 clear hown hb1 HDi
 go_wp2_with fail
 go_loopw [3, 13] (fun o i wr => ∃ (m : Nat) (A' : Option Addr) (c' : Nat) (L : List (HRaw × RawV)), m ≤ nD ∧ i = .int .i64 m ∧ L.length = m ∧ o = .slice A' m c' ∧ L.map Prod.snd = allZ size D FR m ∧ RawsAt wr w1.heap.size A' c' L ∧ Below w1.heap.size w1 wr) (fun _ i _ => nD - (intOf i).toNat)
 case atStart => exact ⟨0, none, 0, [], by omega, rfl, rfl, rfl, rfl, ⟨World.ownsRow_nil _ _ _ _, nofun⟩, Below.refl _ _⟩
 case round =>
  obtain ⟨m, A', c', L, hm, rfl, hLm, rfl, hmap, hraws, hbel⟩ := hrel
  have HLm := hid hLm
  have Hmap := hid hmap
  have HRw := hid hraws
  have Hbel := hid hbel
  clear hLm hmap hraws hbel
  obtain ⟨wa, rfl⟩ : ∃ wa, wa = wr := ⟨_, rfl⟩
  by_cases hlt : m < nD
  ·have t1 : (m : Int) < (nD : Int) := by omega
   have t2 : (0 : Int) ≤ (m : Int) := by omega
   obtain ⟨y, hy⟩ := list_get (k := m) HnD.out hlt
   have hx := HPg.out m y hy
   obtain ⟨x, hxe⟩ : ∃ x, plc size D m y = x := ⟨_, rfl⟩
   rw [hxe] at hx
   obtain ⟨bD, oD, rfl, hbD, hcD⟩ := meta_at (RD.out.later Hbel.out) hx
   have HX := hid hcD
   have hrt := HRt.out x (List.mem_of_getElem? hx)
   obtain ⟨⟨l1, l2⟩, _, ⟨l3, l4⟩, _, _⟩ := right_bds hrt
   obtain ⟨ch, hch⟩ := Int.eq_ofNat_of_zero_le (show 0 ≤ x.channels by omega)
   have hczb : 1 ≤ countZ x.length ∧ countZ x.length ≤ 65536 := by unfold countZ; split <;> omega
   obtain ⟨cz, hcz⟩ := Int.eq_ofNat_of_zero_le (show 0 ≤ countZ x.length by omega)
   have hyl : y.length = x.length ∧ y.channels = x.channels := by rw [← hxe]; exact ⟨rfl, rfl⟩
   obtain ⟨F0, S0, T, hq1, hq2, hxT, h1T, hkS, hkL, _⟩ := HkL.out m x hx
   clear hq1 hq2
   have HFr := hid (fun W => (show Calls Tryz.prog 17 #[.agg x.cells.toArray] W (fun e w' => e = .returned (.int .i64 (T : Nat)) ∧ Below W.heap.size W w') from by
    have := bankFrames_any x W (by omega) (by omega)
    rwa [hxT] at this))
   have HA2 := hid (fun (n c : Nat) (hn : n < cz) (hc : c < ch) => HAs.out m n c ch cz y hy (by rw [hyl.2]; exact hch) (by rw [hyl.1]; exact hcz) hn hc)
   have hTc : T = cz * ch := by
    have : framesN x = countZ x.length * x.channels := rfl
    rw [hxT, hch, hcz] at this
    have h2 : ((cz * ch : Nat) : Int) = (T : Int) := by rw [this]; push_cast; rfl
    omega
   have HZs1 := hid (HZs.out m x hx)
   rw [hxT, Int.toNat_natCast] at HZs1
   rw [hch] at l3 l4
   obtain ⟨nm, len, rate, chv, lp, f, t, s0, f0⟩ := x
   simp only at hch
   subst hch
   have k0 := hcD 0 _ rfl
   have k1 := hcD 1 _ rfl
   have k2 := hcD 2 _ rfl
   have k3 := hcD 3 _ rfl
   have k4 := hcD 4 _ rfl
   have k5 := hcD 5 _ rfl
   have k6 := hcD 6 _ rfl
   have k7 := hcD 7 _ rfl
   have k8 := hcD 8 _ rfl
   rw [Nat.add_zero] at k0
   have HMf := hid (show (Tryz.prog.info? 27).map (·.size) = some 9 by kernel_rfl)
   clear hy hx hxe hcD hbD hrt l1 l2 hcz hyl hxT HX
   go_wp2_with fail
   obtain ⟨xc, hxc⟩ : ∃ xc : List Value, [.string nm, .int .i64 len, .int .i64 rate, .int .i64 ch, .bool lp, .int .i64 f, .int .i64 t, .int .i64 s0, .int .i64 f0] = xc := ⟨_, rfl⟩
   have Hx3 := hid (show xc[3]? = some (.int .i64 ch) by rw [← hxc]; rfl)
   have Hx9 := hid (show xc.length = 9 by rw [← hxc]; rfl)
   have HXc := hid (show (⟨nm, len, rate, ch, lp, f, t, s0, f0⟩ : MetaV).cells = xc from hxc)
   obtain ⟨w5, hw5⟩ : ∃ w5, (wa.alloc (.cells #[.string nm, .int .i64 len, .int .i64 rate, .int .i64 ch, .bool lp, .int .i64 f, .int .i64 t, .int .i64 s0, .int .i64 f0] 27)).alloc (.cells #[.string nm, .int .i64 len, .int .i64 rate, .int .i64 ch, .bool lp, .int .i64 f, .int .i64 t, .int .i64 s0, .int .i64 f0, .slice none 0 0] 149) = w5 := ⟨_, rfl⟩
   rw [hw5]
   have Xm := hid (show Blk w5 wa.heap.size 27 xc by rw [← hw5, ← hxc]; exact (Blk.new wa _ [.string nm, .int .i64 len, .int .i64 rate, .int .i64 ch, .bool lp, .int .i64 f, .int .i64 t, .int .i64 s0, .int .i64 f0]).alloc _)
   have Xr := hid (show Blk w5 (wa.heap.size + 1) 149 (xc ++ [.slice none 0 0]) by
    rw [← hw5, ← hxc]
    have := Blk.new (wa.alloc (.cells #[.string nm, .int .i64 len, .int .i64 rate, .int .i64 ch, .bool lp, .int .i64 f, .int .i64 t, .int .i64 s0, .int .i64 f0] 27)) 149 [.string nm, .int .i64 len, .int .i64 rate, .int .i64 ch, .bool lp, .int .i64 f, .int .i64 t, .int .i64 s0, .int .i64 f0, .slice none 0 0]
    rw [World.size_alloc] at this
    exact this)
   have E5 := hid (show Below wa.heap.size wa w5 by rw [← hw5]; exact bnext (bnew wa _) (bnew _ _))
   have hz5 : w5.heap.size = wa.heap.size + 2 := by rw [← hw5]; simp
   have hal : ∀ ad, (Value.slice A' m c').ownBlock = some ad → ad < wa.heap.size := fun ad h => by
    have h2 := HRw.out.own
    rw [HLm.out] at h2
    exact own_row_lt h2 ad h
   have Hal := hid hal
   obtain ⟨gm, hgm⟩ : ∃ gm, wa.heap.size = gm := ⟨_, rfl⟩
   have E5' := hid (show Below gm wa w5 by rw [← hgm]; exact E5.out)
   rw [hgm] at Xm Xr Hal hz5 ⊢
   clear hw5 hxc k0 k1 k2 k3 k4 k5 k6 k7 k8 hal
   refine (HFr.out _).mono ?_
   rintro e w6 ⟨rfl, hb6⟩
   have E6 := hid (bnext E5.out hb6)
   have X6 := hid (Xm.out.below hb6 Xm.out.lt)
   have Y6 := hid (Xr.out.below hb6 Xr.out.lt)
   have hz6 := hb6.size
   have Hz6 := hid (show gm + 2 ≤ w6.heap.size by omega)
   have R6 := hid (HRw.out.below E6.out)
   obtain ⟨K, hK⟩ : ∃ K, kOf D m = K := ⟨_, rfl⟩
   rw [hK] at HA2 HZs1 hkL
   have HLk := hid (fun j (hj : j ≤ T) => (show ((FR.drop K).take j).length = j by rw [List.length_take, List.length_drop]; omega))
   have HTk := hid (fun (j : Nat) f (h : FR[K + j]? = some f) => (show (FR.drop K).take (j + 1) = (FR.drop K).take j ++ [f] from by
    rw [List.take_add_one, List.getElem?_drop, h]
    rfl))
   have hTb : T ≤ 400000 := by have := HFl.out; omega
   clear hb6 hz6 hz5 hK Xm Xr E5 E5'
   go_wp2_with fail
   go_loopw [22] (fun i wx => ∃ (j : Nat) (A2 : Option Addr) (c2 : Nat) (vs : List Value), j ≤ T ∧ i = .int .i64 j ∧ Blk wx (gm + 1) 149 (xc ++ [.slice A2 j c2]) ∧ FsAt wx w6.heap.size A2 c2 ((FR.drop K).take j) vs ∧ w6.grownBy wx (some (gm + 1))) (fun i _ => T - (intOf i).toNat)
   case atStart => exact ⟨0, none, 0, [], by omega, rfl, Y6.out, FsAt.nil _ _, World.grownBy.refl _ _⟩
   case round =>
    obtain ⟨j, A2, c2, vs, hj, rfl, hbk, hfs, hgr⟩ := hrel
    have HY := hid hbk
    have HF := hid hfs
    have HG := hid hgr
    clear hbk hfs hgr
    obtain ⟨wx, rfl⟩ : ∃ wx, wx = wr := ⟨_, rfl⟩
    have hszx := HG.out.size
    by_cases hlj : j < T
    ·have t3 : (j : Int) < (T : Int) := by omega
     have hch0 : 0 < ch := by omega
     obtain ⟨q, hq⟩ : ∃ q, j / ch = q := ⟨_, rfl⟩
     obtain ⟨c, hc⟩ : ∃ c, j % ch = c := ⟨_, rfl⟩
     have hcl : c < ch := by rw [← hc]; exact Nat.mod_lt _ hch0
     have hqc : q * ch + c = j := by rw [← hq, ← hc, Nat.mul_comm]; exact Nat.div_add_mod j ch
     have hql : q < cz := by
      rw [← hq]
      exact Nat.div_lt_of_lt_mul (by rw [Nat.mul_comm, ← hTc]; exact hlj)
     obtain ⟨hE, _, _, _, fr, hf, hfl, hsub, _⟩ := HA2.out q c hql hcl
     rw [hqc] at hf
     have HTk1 := hid (HTk.out j fr hf)
     have hrem : ((j : Int)).tmod (ch : Int) = (c : Int) := by rw [← hc]; rfl
     have hquo : ((j : Int)).tdiv (ch : Int) = (q : Int) := by rw [← hq]; rfl
     have hqj : q ≤ j := by rw [← hq]; exact Nat.div_le_self _ _
     have hwq : IntKind.i64.wrap (q : Int) = (q : Int) := IntWalk.i64_in _ (by omega)
     have hwc : IntKind.i64.wrap (c : Int) = (c : Int) := IntWalk.i64_in _ (by omega)
     have u1 : ((ch : Int) == 0) = false := beq_eq_false_iff_ne.2 (by omega)
     have Xx := hid (Blk.grown X6.out HG.out (fun e => by injection e with e; omega))
     have x3 := fun (z : GW wx) => (show z.1.cell? ⟨gm, 3, none⟩ = some (.int .i64 ch) from (z.2.cell (p := ⟨gm, 3, none⟩) Xx.out.lt).trans ((Xx.out.cell 3).trans Hx3.out))
     have HB1 := hid (fun W hW => HBy.out W m c q hW hE)
     rw [hsub] at HB1
     have Hfl2 := hid hfl
     have HWx := hid (show Below w.heap.size w wx from by
      have h1 := bnext (bnext B1.out Hbel.out) E6.out
      exact h1.grown HG.out (by have := B1.out.size; have := Hbel.out.size; have := Hz6.out; omega) (fun k hk => by injection hk with hk; have := B1.out.size; have := Hbel.out.size; omega))
     clear hq hc hqc hql hE hf hfl hsub hcl hqj
     go_wp2_with fail
     refine wp_region_calm_head 10 #[true, true, true, true, true, true, true, true, true, true, false, false, false, false, false, false] (by kernel_rfl) (by kernel_rfl) ?_
     simp only [List.take_succ_cons, List.take_zero]
     repeat (go_big_quiet_step (fail))
     refine wpQuiet_nil ?_
     intro w7 hw'
     have B7 := hid (gw_below hw')
     clear hw' x3
     change wpAny _ _ _ _ 6 _ _ _
     refine wpAny_ready (rs := [10]) (by kernel_rfl) (by simp) ?_
     refine AllReady.cons rfl (fun K hK => ?_) AllReady.nil
     go_simp
     go_wp2_with (go_at_call 21; refine (HB1.out w7 (bnext HWx.out B7.out)).mono ?_; rintro e w8 ⟨Ab, cb, rfl, hcb1, hcb2, hownb, hb8⟩)
     refine wpAny_take (i := 11) (v := ?_) rfl (by kernel_rfl) (by kernel_rfl) (by kernel_rfl) (fun _ _ _ h => h) (Or.inl ⟨by rfl, ?_⟩) ?_
     rotate_left
     ·intro w; go_simp; try (with_reducible rfl)
     simp only [Act.put, List.getElem_toArray, List.getElem_cons_succ, List.getElem_cons_zero, List.setIfInBounds_toArray, List.set_cons_succ, List.set_cons_zero]
     refine wpAny_take (i := 12) (v := ?_) rfl (by kernel_rfl) (by kernel_rfl) (by kernel_rfl) (fun _ _ _ h => h) (Or.inl ⟨by rfl, ?_⟩) ?_
     rotate_left
     ·intro w; go_simp; try (with_reducible rfl)
     simp only [Act.put, List.getElem_toArray, List.getElem_cons_succ, List.getElem_cons_zero, List.setIfInBounds_toArray, List.set_cons_succ, List.set_cons_zero]
     refine wpAny_take (i := 13) (v := ?_) rfl (by kernel_rfl) (by kernel_rfl) (by kernel_rfl) (fun _ _ _ h => h) (Or.inl ⟨by rfl, ?_⟩) ?_
     rotate_left
     ·intro w; go_simp; try (with_reducible rfl)
     simp only [Act.put, List.getElem_toArray, List.getElem_cons_succ, List.getElem_cons_zero, List.setIfInBounds_toArray, List.set_cons_succ, List.set_cons_zero]
     refine wpAny_take (i := 14) (v := ?_) rfl (by kernel_rfl) (by kernel_rfl) (by kernel_rfl) (fun _ _ _ h => h) (Or.inl ⟨by rfl, ?_⟩) ?_
     rotate_left
     ·intro w; go_simp; try (with_reducible rfl)
     simp only [Act.put, List.getElem_toArray, List.getElem_cons_succ, List.getElem_cons_zero, List.setIfInBounds_toArray, List.set_cons_succ, List.set_cons_zero]
     refine wpAny_take (i := 15) (v := ?_) rfl (by kernel_rfl) (by kernel_rfl) (by kernel_rfl) (fun _ _ _ h => h) (Or.inl ⟨by rfl, ?_⟩) ?_
     rotate_left
     ·intro w; go_simp; try (with_reducible rfl)
     simp only [Act.put, List.getElem_toArray, List.getElem_cons_succ, List.getElem_cons_zero, List.setIfInBounds_toArray, List.set_cons_succ, List.set_cons_zero]
     refine wpAny_done (by kernel_rfl) ?_ _
     have B8 := hid (bnext B7.out hb8)
     have Y8 := hid (HY.out.below B8.out HY.out.lt)
     have F8 := hid (HF.out.below B8.out)
     have G8 := hid (grownBy_below HG.out B8.out)
     have hsz8 := B8.out.size
     have O8 := hid hownb
     have HLj := hid (HLk.out j hj)
     have own8 := F8.out.own
     rw [HLj.out] at own8
     have Own8 := hid own8
     have y9 := (Y8.out.cell 9).trans (show (xc ++ [.slice A2 j c2])[9]? = some (.slice A2 j c2) by rw [List.getElem?_append_right (by rw [Hx9.out]; exact Nat.le_refl _), Hx9.out]; rfl)
     clear hownb own8 hb8 HB1
     go_wp2_with (at_builtin; refine wpList_app _ rfl (.tmp 40) (.tmp 42) 23 rfl w6.heap.size 29 iB (.slice none 0 0) 1 24 Tryz.underlying23 hiB hzB0 hzB1 hzB2 rfl (by omega) (.slice A2 j c2) j vs rfl (Own8.out.alloc _) (w8.heap.size + 1) (some ⟨w8.heap.size, 0, none⟩) 1 1 [.slice Ab size cb] rfl rfl (Row.new w8 _ [.slice Ab size cb]) (fun u hu => by rw [List.mem_singleton] at hu; rw [hu]; rfl) (by omega) (by omega) (by simp; omega) ?_; intro A9 c9 w9 hown9 hgr9 hat9 hcc9; have X9 := hid (Blk.grown (Y8.out.alloc (.cells #[.slice Ab size cb] 29)) hgr9 (own_ne (Own8.out.alloc _) (Y8.out.alloc (.cells #[.slice Ab size cb] 29)) (by decide))); have z9 := (X9.out.cell 9).trans (show (xc ++ [.slice A2 j c2])[9]? = some (.slice A2 j c2) by rw [List.getElem?_append_right (by rw [Hx9.out]; exact Nat.le_refl _), Hx9.out]; rfl); have f9 := blk_free X9.out 9)
     go_roundw
     case rel =>
      have h1 := F8.out.below (bnew w8 (.cells #[.slice Ab size cb] 29))
      have h2 := h1.push (f := fr) (a := Ab) (k := cb) (by rw [Hfl2.out]; exact hcb1) hcb2 (by rw [Hfl2.out]; exact O8.out.alloc _) (A' := A9) (c' := c9) (by rw [HLj.out, Hfl2.out]; exact hown9) (by rw [HLj.out]; exact hgr9)
      rw [Hfl2.out, ← HTk1.out] at h2
      refine ⟨j + 1, A9, c9, vs ++ [.slice Ab size cb], by omega, by go_num, ?_, h2.blk X9.out (by decide) (by decide) (grownBy_setB (World.grownBy.refl _ _) _ _), ?_⟩
      ·have h3 := Blk.set_ X9.out 9 (.slice A9 (j + 1) c9)
       rw [List.set_append_right _ _ (by rw [Hx9.out]; exact Nat.le_refl _), Hx9.out] at h3
       exact h3
      ·exact grownBy_setB (grownBy_new (grownBy_allocR G8.out _) hgr9 (fun k hk => own_block_ge Own8.out k hk)) _ _
     case measure => first | (simp [intOf]; done) | (simp [intOf]; omega)
    ·have hjT : j = T := by omega
     subst hjT
     have t3 : ¬ ((j : Int) < (j : Int)) := by omega
     have HLj := hid (HLk.out j hj)
     obtain ⟨p, hp⟩ : ∃ p : HRaw × RawV, (⟨⟨A2, c2⟩, ⟨⟨nm, len, rate, ch, lp, f, t, s0, f0⟩, (FR.drop K).take j⟩⟩ : HRaw × RawV) = p := ⟨_, rfl⟩
     have hpc : rawC p = xc ++ [.slice A2 j c2] := by
      have h1 : rawC p = (⟨nm, len, rate, ch, lp, f, t, s0, f0⟩ : MetaV).cells ++ [.slice A2 ((FR.drop K).take j).length c2] := by rw [← hp]; rfl
      rw [h1, HLj.out, HXc.out]
     have hp2 : p.2 = ⟨⟨nm, len, rate, ch, lp, f, t, s0, f0⟩, (FR.drop K).take j⟩ := by rw [← hp]
     have hpr : RawAt wx p := by
      rw [← hp]
      exact ⟨vs, HF.out.len, own_base HF.out.own (Nat.zero_le _), HF.out.each⟩
     have Hp2 := hid hp2
     have Hpr := hid hpr
     have own6 := R6.out.own
     rw [HLm.out] at own6
     have Own := hid (own6.kept HG.out (by
      rcases hq : (Value.slice A' m c').ownBlock with _ | k
      ·exact .inl rfl
      ·right
       intro e
       injection e with e
       have := Hal.out k hq
       omega))
     have HEa := hid (fun q hq => (R6.out.each q hq).blk Y6.out (by decide) (by decide) HG.out)
     have hpl : (rawC p).length = 10 := rawC_len p
     have Hp1 := hid (rawC_one p)
     have Hcs := hid (rawsC_snoc L p)
     rw [← hpc] at HY
     obtain ⟨pc, hpce⟩ : ∃ pc, rawC p = pc := ⟨_, rfl⟩
     rw [hpce] at HY Hp1 Hcs hpl
     have Hpl := hid hpl
     have Hps := hid (show pc.toArray.size = 10 by rw [List.size_toArray, hpl])
     have HFp := hid (show (Tryz.prog.info? 149).map (·.size) = some pc.toArray.size by rw [Hps.out]; exact inf_raw)
     have hm64 : m + 1 ≤ 65 := by omega
     clear hp hpc hp2 hpr own6 hpl hpce HF
     have hszx2 := HG.out.size
     have hB5 := Hbel.out.size
     have hE6 := E6.out.size
     go_wp2_with (first | (refine wpList_load_row_w rfl 149 (.tmp 6) rfl (gm + 1) rfl _ pc.toArray _ _ HY.out Tryz.underlying149 rfl HFp.out ?_) | (refine wpList_build_one rfl 145 149 (.tmp 47) rfl i0 z0 10 Tryz.underlying145 hi hz0 hi1 (by omega) (by omega) pc.toArray rfl Hps.out ?_) | (at_builtin; refine wpList_app _ rfl (.tmp 46) (.tmp 48) 145 rfl w1.heap.size 149 i0 z0 10 104 Tryz.underlying145 hi hz0 hi1 hi2 hz0s (by omega) (.slice A' m c') m (rawsC L) rfl (Own.out.alloc _) (wx.heap.size + 1) (some ⟨wx.heap.size, 0, none⟩) 1 1 pc rfl (by rw [Hpl.out]) (Row.new wx _ pc) Hp1.out (by omega) (by omega) (by simp; omega) ?_; intro A9 c9 w9 hown9 hgr9 hat9 hcc9))
     go_roundw
     case rel =>
      have hb9 : Below w1.heap.size w1 w9 := by
       have h1 := bnext Hbel.out E6.out
       have h2 := h1.grown HG.out (by omega) (fun k hk => by injection hk with hk; omega)
       exact (h2.alloc (by omega) (.cells pc.toArray 149)).grown hgr9 (by simp; omega) (fun k hk => own_block_ge Own.out k hk)
      refine ⟨m + 1, A9, c9, L ++ [p], by omega, by go_num, by simp [HLm.out], rfl, ?_, ⟨?_, fun q hq => ?_⟩, hb9⟩
      ·rw [List.map_append, Hmap.out, HZs1.out]
       show _ ++ [p.2] = _
       rw [Hp2.out]
      ·rw [show (L ++ [p]).length = m + 1 by simp [HLm.out], Hcs.out]
       exact hown9
      ·have hfar := fun (q : HRaw × RawV) (h : RawAt wx q) => (h.below (bnew wx (.cells pc.toArray 149))).far (Own.out.alloc (.cells pc.toArray 149)) (by decide) (by decide) hgr9
       rcases List.mem_append.1 hq with h | h
       ·exact hfar q (HEa.out q h)
       ·rw [List.mem_singleton] at h; rw [h]; exact hfar p Hpr.out
     case measure => first | (simp [intOf]; done) | (simp [intOf]; omega)
  ·have hmn : m = nD := by omega
   subst hmn
   have t1 : ¬ ((m : Int) < (m : Int)) := by omega
   go_wp2
   go_ret
   exact ⟨A', c', L, by rw [HLm.out]; rfl, Hmap.out, ⟨own_base HRw.out.own B1.out.size, HRw.out.each⟩, bnext B1.out Hbel.out⟩
end Go.Proofs.YtgcfkblmnpnogaaGreatDoor
namespace Go.Proofs.YtgcfkblmnpnogaaGreatDoor
open Go.RowKit Go.Lib
def atZ (Z : List RawV) (nm : ByteArray) : Nat := (Z.takeWhile fun r => nameLt r.m.name nm).length
def atB (Z : List RawV) (nm : ByteArray) : Bool := match Z[atZ Z nm]? with
 | some r => r.m.name.toList == nm.toList
 | none => false
theorem atZ_eq {Z : List RawV} {nm : ByteArray} : ∀ {k : Nat}, k ≤ Z.length → (∀ t r, t < k → Z[t]? = some r → nameLt r.m.name nm = true) → (∀ r, Z[k]? = some r → nameLt r.m.name nm = false) → atZ Z nm = k := by
 unfold atZ
 induction Z with
 | nil =>
  intro k hk _ _
  have : k = 0 := by simpa using hk
  subst this
  rfl
 | cons x r ih =>
  intro k hk h1 h2
  cases k with
  | zero =>
   have := h2 x rfl
   rw [List.takeWhile_cons, if_neg (by rw [this]; decide)]
   rfl
  | succ k =>
   have := h1 0 x (by omega) rfl
   rw [List.takeWhile_cons, if_pos this, List.length_cons, ih (by simpa using hk) (fun t r ht hr => h1 (t + 1) r (by omega) (by simpa using hr)) (fun r hr => h2 r (by simpa using hr))]
theorem atZ_le (Z : List RawV) (nm : ByteArray) : atZ Z nm ≤ Z.length := by
 unfold atZ
 exact List.Sublist.length_le (List.takeWhile_sublist _)
set_option maxRecDepth 100000 in
set_option maxHeartbeats 4000000 in
theorem at_any (L : List (HRaw × RawV)) (A : Option Addr) (c : Nat) (nm : ByteArray) (w : World) (hL : L.length ≤ 1000) (hr : Row w w.heap.size A (rawsC L)) :
  Calls Tryz.prog 90 #[.slice A L.length c, .string nm] w fun e w' => e = .returned (.tuple #[.int .i64 (atZ (L.map Prod.snd) nm), .bool (atB (L.map Prod.snd) nm)]) ∧ Below w.heap.size w w' := by
 have HE := hid (fun (k : Nat) h1 h2 h3 => atZ_eq (Z := L.map Prod.snd) (nm := nm) (k := k) h1 h2 h3)
 have HB := hid (show atB (L.map Prod.snd) nm = match (L.map Prod.snd)[atZ (L.map Prod.snd) nm]? with | some r => r.m.name.toList == nm.toList | none => false from rfl)
 have HG := hid (fun (k : Nat) p (h : L[k]? = some p) => (show (L.map Prod.snd)[k]? = some p.2 from by rw [List.getElem?_map, h]; rfl))
 have Hr := hid hr
 have Hml := hid ((show (L.map Prod.snd).length = L.length from List.length_map _))
 obtain ⟨n, hn⟩ : ∃ n, L.length = n := ⟨_, rfl⟩
 rw [hn] at hL Hml ⊢
 have Hn := hid hn
 clear hr hn
 go_enter Tryz.func90, Tryz.ntmps90
 go_wp2_with fail
 go_loopw [6] (fun i wr => ∃ k : Nat, k ≤ n ∧ i = .int .i64 k ∧ (∀ t r, t < k → (L.map Prod.snd)[t]? = some r → nameLt r.m.name nm = true) ∧ Below w.heap.size w wr) (fun i _ => n - (intOf i).toNat)
 case atStart => exact ⟨0, by omega, rfl, fun t r h => absurd h (Nat.not_lt_zero _), Below.refl _ _⟩
 case round =>
  obtain ⟨k, hk, rfl, hq, hbel⟩ := hrel
  have Hbel := hid hbel
  have Hq := hid hq
  clear hbel hq
  by_cases hlt : k < n
  ·have t1 : (k : Int) < (n : Int) := by omega
   have t2 : (0 : Int) ≤ (k : Int) := by omega
   obtain ⟨p, hp⟩ := list_get (k := k) Hn.out hlt
   obtain ⟨b, off, rfl, hb, hc⟩ := raw_at (Hr.out.later Hbel.out) hp
   have c0 := hc 0 _ (show (rawC p)[0]? = some (.string p.2.m.name) from rfl)
   rw [Nat.add_zero] at c0
   have Hg := hid (HG.out k p hp)
   have x0 := fun (z : GW wr) => (z.2.cell (p := ⟨b, off + k * 10, none⟩) hb).trans c0
   obtain ⟨x, hx⟩ : ∃ x, p.2.m.name = x := ⟨_, rfl⟩
   rw [hx] at c0 x0
   have Hx := hid hx
   have hbl := bytesLess_nm x nm
   obtain ⟨lb, hlb⟩ : ∃ lb, nameLt x nm = lb := ⟨_, rfl⟩
   rw [hlb] at hbl
   have Hlb := hid hlb
   clear hp hc hx hb hlb
   cases lb with
   | true =>
    clear x0
    have Hq2 := hid (show ∀ t r, t < k + 1 → (L.map Prod.snd)[t]? = some r → nameLt r.m.name nm = true from fun t r ht hr => by
     by_cases htk : t = k
     ·subst htk
      rw [Hg.out] at hr
      injection hr with hr
      rw [← hr, Hx.out, Hlb.out]
     ·exact Hq.out t r (by omega) hr)
    go_wp2
    go_roundw
    case rel => exact ⟨k + 1, by omega, by go_num, Hq2.out, Hbel.out⟩
    case measure => simp [intOf]; omega
   | false =>
    have hat := HE.out k (by rw [Hml.out]; omega) Hq.out (fun r hr => by
     rw [Hg.out] at hr
     injection hr with hr
     rw [← hr, Hx.out, Hlb.out])
    have hb2 := HB.out
    rw [hat, Hg.out] at hb2
    have hb2 : atB (L.map Prod.snd) nm = (p.2.m.name.toList == nm.toList) := hb2
    rw [Hx.out] at hb2
    obtain ⟨qb, hqb⟩ : ∃ qb, (x.toList == nm.toList) = qb := ⟨_, rfl⟩
    rw [hqb] at hb2
    have Hat := hid hat
    have Hb2 := hid hb2
    have t3 : decide ((k : Int) < (n : Int)) = true := decide_eq_true t1
    clear hat hb2
    go_wp2_with fail
    refine wp_region_calm (by kernel_rfl) (by kernel_rfl) ?_
    repeat (go_big_quiet_step (fail))
    refine wpQuiet_nil ?_
    intro w6 hw'
    have B6 := hid (gw_below hw')
    clear hw' x0 c0
    go_wp2
    refine bodyPost_ret (results_tmp2 Tryz.results90 _ _ _) rfl ?_
    exact ⟨by rw [Hat.out, Hb2.out]; rfl, bnext Hbel.out B6.out⟩
  ·have hkn : k = n := by omega
   subst hkn
   have t1 : ¬ ((k : Int) < (k : Int)) := by omega
   have t3 : decide ((k : Int) < (k : Int)) = false := decide_eq_false t1
   have hat := HE.out k (by rw [Hml.out]; omega) Hq.out (fun r hr => absurd (List.getElem?_eq_some_iff.1 hr).1 (by rw [Hml.out]; omega))
   have hb2 := HB.out
   rw [hat, List.getElem?_eq_none (by rw [Hml.out]; omega)] at hb2
   have hb2 : atB (L.map Prod.snd) nm = false := hb2
   have Hat := hid hat
   have Hb2 := hid hb2
   clear hat hb2
   go_wp2_with fail
   refine wp_region_calm (by kernel_rfl) (by kernel_rfl) ?_
   repeat (go_big_quiet_step (fail))
   refine wpQuiet_nil ?_
   intro w6 hw'
   have B6 := hid (gw_below hw')
   clear hw'
   go_wp2
   refine bodyPost_ret (results_tmp2 Tryz.results90 _ _ _) rfl ?_
   exact ⟨by rw [Hat.out, Hb2.out]; rfl, bnext Hbel.out B6.out⟩
theorem inf_strR : (Tryz.prog.info? 9).map (fun i => (i.zero, i.size, i.bytes)) = some (some (.string ⟨#[]⟩), 1, 16) := by kernel_rfl
def NamesP (w : World) (N : List ByteArray) (e : Ending) (w' : World) : Prop := ∃ A c, e = .returned (.slice A N.length c) ∧ Row w' w'.heap.size A (N.map (.string)) ∧ Below w.heap.size w w'
set_option maxRecDepth 100000 in
set_option maxHeartbeats 4000000 in
theorem Names29_any {g size : Nat} {bs : List Nat} {D : List MetaV} {w : World} (h : BankAt w g bs size D) (hs : 0 < size) (hD : D.length ≤ 64) :
  Calls Tryz.prog 66 #[.pointer (some ⟨g, 0, none⟩)] w (NamesP w (D.map (·.name))) := by
 obtain ⟨iS, hiS, hzS0, hzS1, hzS2⟩ := info_parts inf_strR
 have HDi := hid (BDir_any h hs hD)
 have HTk := hid (fun (m : Nat) x (h : D[m]? = some x) => (show ((D.map (·.name)).map Value.string).take (m + 1) = ((D.map (·.name)).map Value.string).take m ++ [.string x.name] from by
  rw [List.take_add_one, List.getElem?_map, List.getElem?_map, h]
  rfl))
 have HT0 := hid (show ((D.map (·.name)).map Value.string).take 0 = [] from rfl)
 have HTn := hid (show ((D.map (·.name)).map Value.string).take D.length = (D.map (·.name)).map Value.string from List.take_of_length_le (by simp))
 have Hl := hid (show (D.map (·.name)).length = D.length from List.length_map _)
 obtain ⟨n, hn⟩ : ∃ n, D.length = n := ⟨_, rfl⟩
 rw [hn] at HDi hD HTn Hl
 have Hn := hid hn
 generalize D.map (·.name) = NM at *
 obtain ⟨VS, hVS⟩ : ∃ VS, NM.map Value.string = VS := ⟨_, rfl⟩
 have HVS := hid hVS
 rw [hVS] at HTk HT0 HTn
 clear hVS
 clear h hn
 go_enter Tryz.func66, Tryz.ntmps66
 go_wp2_with (go_at_call 24; fail)
 refine HDi.out.mono ?_
 rintro e w1 ⟨Ad, cd, rfl, _, _, _, hown, hb1⟩
 have B1 := hid hb1
 have RD := hid (Row.of_own hown)
 clear hown hb1 HDi
 go_wp2_with fail
 go_loopw [3, 9] (fun o i wr => ∃ (m : Nat) (A' : Option Addr) (c' : Nat), m ≤ n ∧ i = .int .i64 m ∧ o = .slice A' m c' ∧ wr.ownsRow w1.heap.size 9 1 (.slice A' m c') m (VS.take m) ∧ Below w1.heap.size w1 wr) (fun _ i _ => n - (intOf i).toNat)
 case atStart => exact ⟨0, none, 0, by omega, rfl, rfl, by rw [HT0.out]; exact World.ownsRow_nil _ _ _ _, Below.refl _ _⟩
 case round =>
  obtain ⟨m, A', c', hm, rfl, rfl, hown, hbel⟩ := hrel
  have Hown := hid hown
  have Hbel := hid hbel
  clear hown hbel
  by_cases hlt : m < n
  ·have t1 : (m : Int) < (n : Int) := by omega
   have t2 : (0 : Int) ≤ (m : Int) := by omega
   obtain ⟨x, hx⟩ := list_get (k := m) Hn.out hlt
   obtain ⟨b, off, rfl, hbl, hcl⟩ := meta_at (RD.out.later Hbel.out) hx
   have HTk1 := hid (HTk.out m x hx)
   obtain ⟨nm, len, rate, ch, lp, f, t, sums, first⟩ := x
   have k0 := hcl 0 _ rfl
   have k1 := hcl 1 _ rfl
   have k2 := hcl 2 _ rfl
   have k3 := hcl 3 _ rfl
   have k4 := hcl 4 _ rfl
   have k5 := hcl 5 _ rfl
   have k6 := hcl 6 _ rfl
   have k7 := hcl 7 _ rfl
   have k8 := hcl 8 _ rfl
   rw [Nat.add_zero] at k0
   obtain ⟨w5, hw5⟩ : ∃ w5, wr.alloc (.cells #[.string nm, .int .i64 len, .int .i64 rate, .int .i64 ch, .bool lp, .int .i64 f, .int .i64 t, .int .i64 sums, .int .i64 first] 27) = w5 := ⟨_, rfl⟩
   have Y5 := hid (show Blk w5 wr.heap.size 27 [.string nm, .int .i64 len, .int .i64 rate, .int .i64 ch, .bool lp, .int .i64 f, .int .i64 t, .int .i64 sums, .int .i64 first] by rw [← hw5]; exact Blk.new wr _ [.string nm, .int .i64 len, .int .i64 rate, .int .i64 ch, .bool lp, .int .i64 f, .int .i64 t, .int .i64 sums, .int .i64 first])
   have B5 := hid (show Below wr.heap.size wr w5 by rw [← hw5]; exact bnew wr _)
   have y0 := Y5.out.cell 0
   have hB := Hbel.out.size
   have h5 := B5.out.size
   have O5 := hid (own_below Hown.out B5.out)
   clear hcl hx hbl
   go_wp2_with (at_builtin; refine wpList_app _ rfl (.tmp 13) (.tmp 16) 119 rfl w1.heap.size 9 iS (.string ⟨#[]⟩) 1 16 Tryz.underlying119 hiS hzS0 hzS1 hzS2 rfl (by omega) (.slice A' m c') m (VS.take m) rfl (O5.out.alloc _) (w5.heap.size + 1) (some ⟨w5.heap.size, 0, none⟩) 1 1 [.string nm] rfl rfl (Row.new w5 _ [.string nm]) (fun u hu => by rw [List.mem_singleton] at hu; rw [hu]; rfl) (by omega) (by omega) (by simp; omega) ?_; intro A9 c9 w9 hown9 hgr9 hat9 hcc9)
   go_roundw
   case rel => exact ⟨m + 1, A9, c9, by omega, by go_num, rfl, by rw [HTk1.out]; exact hown9, ((bnext Hbel.out B5.out).alloc (by omega) _).grown hgr9 (by simp; omega) (fun k hk => own_block_ge Hown.out k hk)⟩
   case measure => first | (simp [intOf]; done) | (simp [intOf]; omega)
  ·have hmn : m = n := by omega
   subst hmn
   have t1 : ¬ ((m : Int) < (m : Int)) := by omega
   have hown := Hown.out
   rw [HTn.out] at hown
   have HR := hid (Row.of_own hown)
   clear hown
   go_wp2
   go_ret
   exact ⟨A', c', by rw [Hl.out]; rfl, by rw [HVS.out]; exact HR.out, bnext B1.out Hbel.out⟩
end Go.Proofs.YtgcfkblmnpnogaaGreatDoor

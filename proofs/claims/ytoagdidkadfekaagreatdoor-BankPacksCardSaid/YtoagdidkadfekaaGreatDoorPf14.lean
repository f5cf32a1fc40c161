/- CodeI, CodeP, NetF, CodeJ, CodeQ, CodeS, CodeK. Conditions: as each theorem states. -/
import Derived.Laws.CopyOwn
import Derived.Test.YtoagdidkadfekaaGreatDoorPf12
import Derived.Test.YtoagdidkadfekaaGreatDoorPf11
import Derived.Test.YtoagdidkadfekaaGreatDoorPf13
import Derived.Test.YtoagdidkadfekaaGreatDoorPf10

namespace Go.Proofs.YtoagdidkadfekaaGreatDoor
open Go.RowKit

/-- a block of blocks that lie one behind the other -/
def blockAt (p : List Int) (i : Nat) : List Int := (p.drop (i * 16)).take 16
theorem blockAt_len {p : List Int} {c i : Nat} (hp : p.length = c * 16) (hi : i < c) : (blockAt p i).length = 16 := by
  unfold blockAt
  rw [List.length_take, List.length_drop, hp]; omega
/-- rows of one length, the first so many of them laid, the others nought -/
def rowsTo (sz c : Nat) (f : Nat → List Int) (m : Nat) : List Int := ((List.range c).map fun i => if i < m then f i else List.replicate sz 0).flatten
theorem rowsTo_get {sz c : Nat} {f : Nat → List Int} (hf : ∀ i, (f i).length = sz) {m i j : Nat} (hi : i < c) (hj : j < sz) : (rowsTo sz c f m)[i * sz + j]? = if i < m then (f i)[j]? else some 0 := by
  unfold rowsTo
  have hlen : ∀ cs ∈ (List.range c).map (fun i => if i < m then f i else List.replicate sz 0), cs.length = sz := by
    intro cs hcs
    obtain ⟨k, _, rfl⟩ := List.mem_map.1 hcs
    split
    · exact hf k
    · simp
  have key : ∀ (css : List (List Int)), (∀ cs ∈ css, cs.length = sz) → ∀ i, css.flatten[i * sz + j]? = css[i]?.bind (·[j]?) := by
    intro css
    induction css with
    | nil => intro _ i; simp
    | cons d r ih =>
      intro h i
      have hd := h d (by simp)
      cases i with
      | zero => rw [List.flatten_cons, Nat.zero_mul, Nat.zero_add, List.getElem?_append_left (by omega)]; rfl
      | succ i =>
        rw [List.flatten_cons, List.getElem?_append_right (by rw [hd, Nat.succ_mul]; omega), hd, show (i + 1) * sz + j - sz = i * sz + j by rw [Nat.succ_mul]; omega, ih (fun x hx => h x (by simp [hx]))]
        rfl
  rw [key _ hlen, range_map_get _ hi]
  simp only [Option.bind_some]
  split
  · rfl
  · rw [List.getElem?_replicate, if_pos hj]
theorem rowsTo_len {sz c : Nat} {f : Nat → List Int} (hf : ∀ i, (f i).length = sz) (m : Nat) : (rowsTo sz c f m).length = c * sz := by
  unfold rowsTo
  rw [List.length_flatten, List.map_map]
  have : (List.range c).map (List.length ∘ fun i => if i < m then f i else List.replicate sz 0) = List.replicate c sz := by
    apply List.ext_getElem?
    intro i
    rw [List.getElem?_map, List.getElem?_replicate]
    rcases Nat.lt_or_ge i c with hi | hi
    · rw [List.getElem?_range hi, if_pos hi]
      simp only [Option.map_some, Function.comp]
      split
      · rw [hf]
      · simp
    · rw [List.getElem?_eq_none (by simpa using hi), if_neg (by omega)]; rfl
  rw [this, List.sum_replicate_nat]
theorem rowsTo_succ {sz c : Nat} {f : Nat → List Int} (hf : ∀ i, (f i).length = sz) (hs : 0 < sz) {m : Nat} (hm : m < c) : putAt (rowsTo sz c f m) (m * sz) (f m) = rowsTo sz c f (m + 1) := by
  have hfit : m * sz + (f m).length ≤ (rowsTo sz c f m).length := by
    rw [hf, rowsTo_len hf, ← Nat.succ_mul]
    exact Nat.mul_le_mul_right sz hm
  apply List.ext_getElem?
  intro t
  rw [putAt_get hfit, hf]
  rcases Nat.lt_or_ge t (c * sz) with ht | ht
  · obtain ⟨i, j, hj, hi, e⟩ : ∃ i j, j < sz ∧ i < c ∧ t = i * sz + j := ⟨t / sz, t % sz, Nat.mod_lt _ hs, (Nat.div_lt_iff_lt_mul hs).2 ht, by rw [Nat.mul_comm]; exact (Nat.div_add_mod t sz).symm⟩
    subst e
    rw [rowsTo_get hf hi hj, rowsTo_get hf hi hj]
    by_cases him : i = m
    · subst him
      rw [if_pos ⟨by omega, by omega⟩, if_pos (by omega)]
      congr 1
      omega
    · have hne : ¬ (m * sz ≤ i * sz + j ∧ i * sz + j < m * sz + sz) := by
        intro ⟨h1, h2⟩
        rcases Nat.lt_or_gt_of_ne him with h | h
        · have := Nat.mul_le_mul_right sz (show i + 1 ≤ m from h)
          rw [Nat.succ_mul] at this
          omega
        · have := Nat.mul_le_mul_right sz (show m + 1 ≤ i from h)
          rw [Nat.succ_mul] at this
          omega
      rw [if_neg hne]
      by_cases h : i < m
      · rw [if_pos h, if_pos (by omega)]
      · rw [if_neg h, if_neg (by omega)]
  · have h1 : c * sz ≤ t := ht
    have h2 := Nat.mul_le_mul_right sz (show m + 1 ≤ c from hm)
    rw [Nat.succ_mul] at h2
    rw [if_neg (by omega), List.getElem?_eq_none (by rw [rowsTo_len hf]; exact h1), List.getElem?_eq_none (by rw [rowsTo_len hf]; exact h1)]
end Go.Proofs.YtoagdidkadfekaaGreatDoor

namespace Go.Proofs.YtoagdidkadfekaaGreatDoor

theorem bgt_opt (l : List Int) (j : Nat) : bgt l j = l[j]?.getD 0 := by unfold bgt; rw [List.getD_eq_getElem?_getD]
theorem get_bgt {l : List Int} {j : Nat} (h : j < l.length) : l[j]? = some (bgt l j) := by
  rw [bgt_opt, List.getElem?_eq_getElem h]; rfl
theorem putAt_bgt {l : List Int} {off : Nat} {xs : List Int} (h : off + xs.length ≤ l.length) (j : Nat) : bgt (putAt l off xs) j = if off ≤ j ∧ j < off + xs.length then bgt xs (j - off) else bgt l j := by
  rw [bgt_opt, putAt_get h]
  split
  · rw [bgt_opt]
  · rw [bgt_opt]
theorem flipZ_bgt (l : List Int) {n k : Nat} (hk : k < n) : bgt (flipZ l n) k = bgt l (n - 1 - k) := bgt_get (range_map_get _ hk)
theorem cut_bgt (l : List Int) (off n : Nat) {k : Nat} (hk : k < n) : bgt ((l.drop off).take n) k = bgt l (off + k) := by
  rw [bgt_opt, List.getElem?_take, if_pos hk, List.getElem?_drop, bgt_opt]

/-- rows of blocks that meet: of the first m blocks -/
def pairTo (fa fb : Int → Int → TurnV → Int) (p : List Int) (m : Nat) : List Int := (List.range p.length).map fun j =>
  if 1 ≤ (j + 8) / 16 ∧ (j + 8) / 16 < m then (if j < (j + 8) / 16 * 16 then fa (bgt p j) (bgt p ((j + 8) / 16 * 32 - 1 - j)) (turnK ((j + 8) / 16 * 16 - 1 - j)) else fb (bgt p ((j + 8) / 16 * 32 - 1 - j)) (bgt p j) (turnK (j - (j + 8) / 16 * 16))) else bgt p j
def joinTo (p : List Int) (m : Nat) : List Int := pairTo turnA turnB p m
theorem pairTo_len (fa fb : Int → Int → TurnV → Int) (p : List Int) (m : Nat) : (pairTo fa fb p m).length = p.length := by simp [pairTo]
theorem pairTo_bgt (fa fb : Int → Int → TurnV → Int) (p : List Int) (m : Nat) {j : Nat} (hj : j < p.length) : bgt (pairTo fa fb p m) j =
    if 1 ≤ (j + 8) / 16 ∧ (j + 8) / 16 < m then (if j < (j + 8) / 16 * 16 then fa (bgt p j) (bgt p ((j + 8) / 16 * 32 - 1 - j)) (turnK ((j + 8) / 16 * 16 - 1 - j)) else fb (bgt p ((j + 8) / 16 * 32 - 1 - j)) (bgt p j) (turnK (j - (j + 8) / 16 * 16))) else bgt p j := bgt_get (range_map_get _ hj)
theorem pairTo_one (fa fb : Int → Int → TurnV → Int) (p : List Int) {m : Nat} (hm : m ≤ 1) : pairTo fa fb p m = p := by
  refine bgt_ext (pairTo_len _ _ _ _) rfl (fun j hj => ?_)
  rw [pairTo_bgt _ _ _ _ hj, if_neg (by omega)]
/-- pairs of two lists, in general -/
def gA (fa : Int → Int → TurnV → Int) (xs zs : List Int) (o k : Nat) : List Int := (List.range 8).map fun j => if j < k then fa (bgt xs j) (bgt zs (o + j)) (turnK j) else bgt xs j
def gB (fb : Int → Int → TurnV → Int) (xs zs : List Int) (o k : Nat) : List Int := (List.range zs.length).map fun j => if o ≤ j ∧ j < o + k then fb (bgt xs (j - o)) (bgt zs j) (turnK (j - o)) else bgt zs j
theorem gA_len (fa : Int → Int → TurnV → Int) (xs zs : List Int) (o k : Nat) : (gA fa xs zs o k).length = 8 := by simp [gA]
theorem gB_len (fb : Int → Int → TurnV → Int) (xs zs : List Int) (o k : Nat) : (gB fb xs zs o k).length = zs.length := by simp [gB]
theorem gA_bgt (fa : Int → Int → TurnV → Int) (xs zs : List Int) (o : Nat) {j : Nat} (hj : j < 8) : bgt (gA fa xs zs o 8) j = fa (bgt xs j) (bgt zs (o + j)) (turnK j) := by
  unfold gA
  rw [bgt_get (range_map_get _ hj), if_pos hj]
theorem gB_bgt (fb : Int → Int → TurnV → Int) (xs zs : List Int) (o : Nat) {j : Nat} (hj : j < zs.length) : bgt (gB fb xs zs o 8) j = if o ≤ j ∧ j < o + 8 then fb (bgt xs (j - o)) (bgt zs j) (turnK (j - o)) else bgt zs j := bgt_get (range_map_get _ hj)
/-- the upper half of the block ahead, the other way round -/
def edge (p : List Int) (o : Nat) : List Int := flipZ ((p.drop (o - 8)).take 8) 8
theorem edge_len (p : List Int) (o : Nat) : (edge p o).length = 8 := flipZ_len _ _
theorem edge_bgt (p : List Int) {o k : Nat} (ho : 8 ≤ o) (hk : k < 8) : bgt (edge p o) k = bgt p (o - 1 - k) := by
  unfold edge
  rw [flipZ_bgt _ hk, cut_bgt _ _ _ (by omega), show o - 8 + (8 - 1 - k) = o - 1 - k by omega]
def meetZ (fa fb : Int → Int → TurnV → Int) (p : List Int) (o : Nat) : List Int := putAt (gB fb (edge p o) p o 8) (o - 8) (flipZ (gA fa (edge p o) p o 8) 8)
theorem meet_pair (fa fb : Int → Int → TurnV → Int) {p : List Int} {c i : Nat} (hp : p.length = c * 16) (h1 : 1 ≤ i) (hi : i < c) : meetZ fa fb (pairTo fa fb p i) (i * 16) = pairTo fa fb p (i + 1) := by
  have hq := pairTo_len fa fb p i
  have hfit : i * 16 - 8 + (flipZ (gA fa (edge (pairTo fa fb p i) (i * 16)) (pairTo fa fb p i) (i * 16) 8) 8).length ≤ (gB fb (edge (pairTo fa fb p i) (i * 16)) (pairTo fa fb p i) (i * 16) 8).length := by
    rw [flipZ_len, gB_len, hq, hp]; omega
  have hlow : ∀ j, j < p.length → i ≤ (j + 8) / 16 → bgt (pairTo fa fb p i) j = bgt p j := fun j hj h => by rw [pairTo_bgt _ _ _ _ hj, if_neg (by omega)]
  refine bgt_ext (n := p.length) ?_ (pairTo_len _ _ _ _) (fun j hj => ?_)
  · unfold meetZ
    rw [putAt_len hfit, gB_len, hq]
  · unfold meetZ
    rw [putAt_bgt hfit, flipZ_len, pairTo_bgt _ _ _ _ hj]
    by_cases ha : i * 16 - 8 ≤ j ∧ j < i * 16 - 8 + 8
    · have ho : (j + 8) / 16 = i := by omega
      rw [if_pos ha, ho, if_pos (by omega), if_pos (by omega), flipZ_bgt _ (by omega), gA_bgt _ _ _ _ (by omega), edge_bgt _ (by omega) (by omega), show i * 16 - 1 - (8 - 1 - (j - (i * 16 - 8))) = j by omega,
        show i * 16 + (8 - 1 - (j - (i * 16 - 8))) = i * 32 - 1 - j by omega, show 8 - 1 - (j - (i * 16 - 8)) = i * 16 - 1 - j by omega, hlow j hj (by omega), hlow (i * 32 - 1 - j) (by omega) (by omega)]
    · rw [if_neg ha, gB_bgt _ _ _ _ (by rw [hq]; exact hj)]
      by_cases hb : i * 16 ≤ j ∧ j < i * 16 + 8
      · have ho : (j + 8) / 16 = i := by omega
        rw [if_pos hb, ho, if_pos (by omega), if_neg (by omega), edge_bgt _ (by omega) (by omega), show i * 16 - 1 - (j - i * 16) = i * 32 - 1 - j by omega, hlow j hj (by omega), hlow (i * 32 - 1 - j) (by omega) (by omega)]
      · rw [if_neg hb, pairTo_bgt _ _ _ _ hj]
        have hne : (j + 8) / 16 ≠ i := by omega
        by_cases hc : 1 ≤ (j + 8) / 16 ∧ (j + 8) / 16 < i
        · rw [if_pos hc, if_pos (show 1 ≤ (j + 8) / 16 ∧ (j + 8) / 16 < i + 1 by omega)]
        · rw [if_neg hc, if_neg (show ¬ (1 ≤ (j + 8) / 16 ∧ (j + 8) / 16 < i + 1) by omega)]
/-- all numbers of a row within a bound -/
def BdL (M : Int) (p : List Int) : Prop := ∀ j, j < p.length → -M ≤ bgt p j ∧ bgt p j ≤ M
theorem BdL.mono {M N : Int} {p : List Int} (h : BdL M p) (hn : M ≤ N) : BdL N p := fun j hj => by have := h j hj; omega
theorem BdL.turnB {M : Int} {p : List Int} (h : BdL M p) (hM : M ≤ 1099511627776) : TurnB p := fun k x hx => by
  have := h k (List.getElem?_eq_some_iff.1 hx).1
  rw [bgt_get hx] at this
  omega
theorem BdL.mem {M : Int} {p : List Int} (h : BdL M p) : ∀ x ∈ p, -M ≤ x ∧ x ≤ M := fun x hx => by
  obtain ⟨j, hj⟩ := List.mem_iff_getElem?.1 hx
  have := h j (List.getElem?_eq_some_iff.1 hj).1
  rw [bgt_get hj] at this
  exact this
theorem BdL.within {M : Int} {b : List Int} (h : BdL M b) (hb : b.length = 16) : Within M b := fun k hk => h k (by omega)
theorem within_bdl {M : Int} {b : List Int} (h : Within M b) (hb : b.length = 16) : BdL M b := fun j hj => h j (by omega)
theorem pairTo_bd {fa fb : Int → Int → TurnV → Int} (hf : ∀ (k : Nat), k < 8 → ∀ (a b M : Int), -M ≤ a → a ≤ M → -M ≤ b → b ≤ M →
      (-(3 * M + 8) ≤ 2 * fa a b (turnK k) ∧ 2 * fa a b (turnK k) ≤ 3 * M + 8) ∧ (-(3 * M + 8) ≤ 2 * fb a b (turnK k) ∧ 2 * fb a b (turnK k) ≤ 3 * M + 8))
    {M N : Int} {p : List Int} {c m : Nat} (hp : p.length = c * 16) (hm : m ≤ c) (h : BdL M p) (hN : 3 * M + 8 ≤ 2 * N) (hMN : M ≤ N) : BdL N (pairTo fa fb p m) := by
  intro j hj
  rw [pairTo_len] at hj
  rw [pairTo_bgt _ _ _ _ hj]
  have h0 := h j hj
  split
  · rename_i h1
    have h2 := h ((j + 8) / 16 * 32 - 1 - j) (by omega)
    split
    · have := (hf ((j + 8) / 16 * 16 - 1 - j) (by omega) _ _ M h0.1 h0.2 h2.1 h2.2).1
      omega
    · have := (hf (j - (j + 8) / 16 * 16) (by omega) _ _ M h2.1 h2.2 h0.1 h0.2).2
      omega
  · omega
theorem joinTo_bd {M N : Int} {p : List Int} {c m : Nat} (hp : p.length = c * 16) (hm : m ≤ c) (h : BdL M p) (hN : 3 * M + 8 ≤ 2 * N) (hMN : M ≤ N) : BdL N (joinTo p m) := pairTo_bd turn_bd hp hm h hN hMN
/-! Rows of blocks. -/
def flatR (c : Nat) (R : Nat → List Int) : List Int := ((List.range c).map R).flatten
theorem flatR_get {sz c : Nat} {R : Nat → List Int} (hR : ∀ i, i < c → (R i).length = sz) {i j : Nat} (hi : i < c) (hj : j < sz) : (flatR c R)[i * sz + j]? = (R i)[j]? := by
  unfold flatR
  have hlen : ∀ cs ∈ (List.range c).map R, cs.length = sz := by
    intro cs hcs
    obtain ⟨k, hk, rfl⟩ := List.mem_map.1 hcs
    exact hR k (List.mem_range.1 hk)
  have key : ∀ (css : List (List Int)), (∀ cs ∈ css, cs.length = sz) → ∀ i, css.flatten[i * sz + j]? = css[i]?.bind (·[j]?) := by
    intro css
    induction css with
    | nil => intro _ i; simp
    | cons d r ih =>
      intro h i
      have hd := h d (by simp)
      cases i with
      | zero => rw [List.flatten_cons, Nat.zero_mul, Nat.zero_add, List.getElem?_append_left (by omega)]; rfl
      | succ i =>
        rw [List.flatten_cons, List.getElem?_append_right (by rw [hd, Nat.succ_mul]; omega), hd, show (i + 1) * sz + j - sz = i * sz + j by rw [Nat.succ_mul]; omega, ih (fun x hx => h x (by simp [hx]))]
        rfl
  rw [key _ hlen, range_map_get _ hi]
  rfl
theorem flatR_len {sz c : Nat} {R : Nat → List Int} (hR : ∀ i, i < c → (R i).length = sz) : (flatR c R).length = c * sz := by
  unfold flatR
  rw [List.length_flatten, List.map_map]
  have : (List.range c).map (List.length ∘ R) = List.replicate c sz := by
    apply List.ext_getElem?
    intro i
    rw [List.getElem?_map, List.getElem?_replicate]
    rcases Nat.lt_or_ge i c with hi | hi
    · rw [List.getElem?_range hi, if_pos hi]
      simp only [Option.map_some, Function.comp, hR i hi]
    · rw [List.getElem?_eq_none (by simpa using hi), if_neg (by omega)]; rfl
  rw [this, List.sum_replicate_nat]
theorem row_ext {sz c : Nat} {a b : List Int} (hs : 0 < sz) (ha : a.length = c * sz) (hb : b.length = c * sz) (h : ∀ i j, i < c → j < sz → a[i * sz + j]? = b[i * sz + j]?) : a = b := by
  apply List.ext_getElem?
  intro t
  rcases Nat.lt_or_ge t (c * sz) with ht | ht
  · obtain ⟨i, j, hj, hi, e⟩ : ∃ i j, j < sz ∧ i < c ∧ t = i * sz + j := ⟨t / sz, t % sz, Nat.mod_lt _ hs, (Nat.div_lt_iff_lt_mul hs).2 ht, by rw [Nat.mul_comm]; exact (Nat.div_add_mod t sz).symm⟩
    subst e
    exact h i j hi hj
  · rw [List.getElem?_eq_none (by omega), List.getElem?_eq_none (by omega)]
/-- a row of a row of rows of sz numbers -/
def rowAt (sz : Nat) (p : List Int) (i : Nat) : List Int := (p.drop (i * sz)).take sz
theorem rowAt_get {sz : Nat} (p : List Int) (i : Nat) {j : Nat} (hj : j < sz) : (rowAt sz p i)[j]? = p[i * sz + j]? := by
  unfold rowAt
  rw [List.getElem?_take, if_pos hj, List.getElem?_drop]
theorem row_fit {sz c i : Nat} (hi : i < c) : i * sz + sz ≤ c * sz := by
  have := Nat.mul_le_mul_right sz (show i + 1 ≤ c from hi)
  rwa [Nat.succ_mul] at this
theorem rowAt_len {sz : Nat} {p : List Int} {c i : Nat} (hp : p.length = c * sz) (hi : i < c) : (rowAt sz p i).length = sz := by
  have := row_fit (sz := sz) hi
  unfold rowAt
  rw [List.length_take, List.length_drop, hp]; omega
theorem rowAt_flatR {sz c : Nat} {R : Nat → List Int} (hR : ∀ i, i < c → (R i).length = sz) {i : Nat} (hi : i < c) : rowAt sz (flatR c R) i = R i := by
  apply List.ext_getElem?
  intro j
  rcases Nat.lt_or_ge j sz with hj | hj
  · rw [rowAt_get _ _ hj, flatR_get hR hi hj]
  · rw [List.getElem?_eq_none (by rw [rowAt_len (flatR_len hR) hi]; exact hj), List.getElem?_eq_none (by rw [hR i hi]; exact hj)]
theorem flatR_rows {sz c : Nat} {p : List Int} (hs : 0 < sz) (hp : p.length = c * sz) : flatR c (rowAt sz p) = p :=
  row_ext hs (flatR_len fun i hi => rowAt_len hp hi) hp fun i j hi hj => by rw [flatR_get (fun i hi => rowAt_len hp hi) hi hj, rowAt_get _ _ hj]
theorem flatR_congr {c : Nat} {R S : Nat → List Int} (h : ∀ i, i < c → R i = S i) : flatR c R = flatR c S := by
  unfold flatR
  congr 1
  apply List.map_congr_left
  intro i hi
  exact h i (List.mem_range.1 hi)
theorem flatR_put {sz c : Nat} {R : Nat → List Int} (hs : 0 < sz) (hR : ∀ i, i < c → (R i).length = sz) {m : Nat} (hm : m < c) {x : List Int} (hx : x.length = sz) : putAt (flatR c R) (m * sz) x = flatR c (fun i => if i = m then x else R i) := by
  have hR2 : ∀ i, i < c → ((fun i => if i = m then x else R i) i).length = sz := fun i hi => by
    show (if i = m then x else R i).length = sz
    split
    · exact hx
    · exact hR i hi
  have hfit : m * sz + x.length ≤ (flatR c R).length := by rw [hx, flatR_len hR]; exact row_fit hm
  refine row_ext hs (by rw [putAt_len hfit, flatR_len hR]) (flatR_len hR2) (fun i j hi hj => ?_)
  rw [putAt_get hfit, hx, flatR_get hR2 hi hj, flatR_get hR hi hj]
  show _ = (if i = m then x else R i)[j]?
  by_cases him : i = m
  · subst him
    rw [if_pos ⟨by omega, by omega⟩, if_pos rfl]
    congr 1
    omega
  · have hne : ¬ (m * sz ≤ i * sz + j ∧ i * sz + j < m * sz + sz) := by
      intro ⟨h1, h2⟩
      rcases Nat.lt_or_gt_of_ne him with h | h
      · have := Nat.mul_le_mul_right sz (show i + 1 ≤ m from h)
        rw [Nat.succ_mul] at this
        omega
      · have := Nat.mul_le_mul_right sz (show m + 1 ≤ i from h)
        rw [Nat.succ_mul] at this
        omega
    rw [if_neg hne, if_neg him]
/-- the first m blocks of a row turned, each by itself -/
def blkTo (f : Nat → List Int → List Int) (p : List Int) (c m : Nat) : List Int := flatR c fun i => if i < m then f i (blockAt p i) else blockAt p i
section
variable {f : Nat → List Int → List Int} {p : List Int} {c : Nat}
theorem blkTo_rows (hf : ∀ i b, i < c → b.length = 16 → (f i b).length = 16) (hp : p.length = c * 16) (m : Nat) : ∀ i, i < c → (if i < m then f i (blockAt p i) else blockAt p i).length = 16 := fun i hi => by
  split
  · exact hf i _ hi (blockAt_len hp hi)
  · exact blockAt_len hp hi
theorem blkTo_len (hf : ∀ i b, i < c → b.length = 16 → (f i b).length = 16) (hp : p.length = c * 16) (m : Nat) : (blkTo f p c m).length = c * 16 := flatR_len (blkTo_rows hf hp m)
theorem blkTo_zero (hp : p.length = c * 16) : blkTo f p c 0 = p := by
  refine Eq.trans ?_ (flatR_rows (by decide) hp)
  exact flatR_congr fun i _ => if_neg (by omega)
theorem blkTo_at (hf : ∀ i b, i < c → b.length = 16 → (f i b).length = 16) (hp : p.length = c * 16) (m : Nat) {i : Nat} (hi : i < c) : blockAt (blkTo f p c m) i = if i < m then f i (blockAt p i) else blockAt p i := rowAt_flatR (sz := 16) (blkTo_rows hf hp m) hi
theorem blkTo_succ (hf : ∀ i b, i < c → b.length = 16 → (f i b).length = 16) (hp : p.length = c * 16) {m : Nat} (hm : m < c) : putAt (blkTo f p c m) (m * 16) (f m (blockAt p m)) = blkTo f p c (m + 1) := by
  unfold blkTo
  rw [flatR_put (by decide) (blkTo_rows hf hp m) hm (hf m _ hm (blockAt_len hp hm))]
  apply flatR_congr
  intro i hi
  by_cases h : i = m
  · subst h; rw [if_pos rfl, if_pos (by omega)]
  · rw [if_neg h]
    by_cases h2 : i < m
    · rw [if_pos h2, if_pos (by omega)]
    · rw [if_neg h2, if_neg (by omega)]
end
theorem blockAt_bd {M : Int} {p : List Int} {c i : Nat} (hp : p.length = c * 16) (hi : i < c) (h : BdL M p) : BdL M (blockAt p i) := fun j hj => by
  have hb := blockAt_len hp hi
  rw [show blockAt p i = (p.drop (i * 16)).take 16 from rfl, cut_bgt _ _ _ (by omega)]
  exact h _ (by omega)
theorem flatR_bd {M : Int} {c : Nat} {R : Nat → List Int} (hR : ∀ i, i < c → (R i).length = 16) (h : ∀ i, i < c → BdL M (R i)) : BdL M (flatR c R) := fun t ht => by
  rw [flatR_len hR] at ht
  obtain ⟨i, j, hj, hi, e⟩ : ∃ i j, j < 16 ∧ i < c ∧ t = i * 16 + j := ⟨t / 16, t % 16, by omega, by omega, by omega⟩
  subst e
  have e2 : bgt (flatR c R) (i * 16 + j) = bgt (R i) j := by rw [bgt_opt, flatR_get hR hi hj, bgt_opt]
  rw [e2]
  exact h i hi j (by rw [hR i hi]; exact hj)
theorem blkTo_bd {M N : Int} {f : Nat → List Int → List Int} {p : List Int} {c m : Nat} (hf : ∀ i b, i < c → b.length = 16 → (f i b).length = 16) (hp : p.length = c * 16) (h : BdL M p) (hMN : M ≤ N)
    (hb : ∀ i b, i < c → b.length = 16 → BdL M b → BdL N (f i b)) : BdL N (blkTo f p c m) := by
  refine flatR_bd (blkTo_rows hf hp m) (fun i hi => ?_)
  split
  · exact hb i _ hi (blockAt_len hp hi) (blockAt_bd hp hi h)
  · exact (blockAt_bd hp hi h).mono hMN
theorem fwdZ_len (b : List Int) : (fwdZ b).length = 16 := netR_len _ _
theorem fwdZ_bd {M N : Int} {b : List Int} (hb : b.length = 16) (h : BdL M b) (hM : 0 ≤ M) (hN : 6 * M + 60 ≤ N) : BdL N (fwdZ b) := by
  have h1 := netR_half (N := (3 * M + 9) / 2) (h.within hb) (by omega) (r := 0) (by omega)
  have h2 := netR_half (N := (9 * M + 56) / 4) h1 (by omega) (r := 1) (by omega)
  have h3 := netR_half (N := (27 * M + 238) / 8) h2 (by omega) (r := 2) (by omega)
  have h4 := netR_half (N := N) h3 (by omega) (r := 3) (by omega)
  exact within_bdl h4 (fwdZ_len b)
end Go.Proofs.YtoagdidkadfekaaGreatDoor

namespace Go.Proofs.YtoagdidkadfekaaGreatDoor
open Go.RowKit

theorem slice_low (g off : Nat) (W : World) : (Instr.sliceAt 60 (.pointer (some ⟨g, off, none⟩)) (some (.int .i64 8)) none none).run Tryz.prog W = .ok (.slice (some ⟨g, off + 8, none⟩) 8 8) W := by
  rw [run_sliceAt_array_l W 60 ⟨g, off, none⟩ block_und .i64 8 (by omega) (by rw [block_len]; omega), block_elem W]
  simp only [Result.andThen_ok, slicedAt, block_len]
  rfl
theorem slice_high (g off : Nat) (W : World) : (Instr.sliceAt 60 (.pointer (some ⟨g, off, none⟩)) none (some (.int .i64 8)) none).run Tryz.prog W = .ok (.slice (some ⟨g, off, none⟩) 8 16) W := by
  rw [run_sliceAt_array_h W 60 ⟨g, off, none⟩ block_und .i64 8 (by omega) (by rw [block_len]; omega), block_elem W]
  simp only [Result.andThen_ok, slicedAt, block_len]
  rfl
theorem splice_putAt {α : Type} (l : List α) (off : Nat) (xs : List α) : splice l off xs = putAt l off xs := by
  unfold splice putAt
  rw [List.append_assoc]
theorem row_part {w : World} {g : Nat} {t : TypeId} {zs : List Int} (h : Blk w g t (zs.map (.int .i64))) (o n : Nat) : Row w w.heap.size (some ⟨g, o, none⟩) (((zs.drop o).take n).map (.int .i64)) := by
  intro i v hv
  refine ⟨g, o, rfl, h.lt, ?_⟩
  rw [h.cell, List.getElem?_map]
  rw [List.getElem?_map, List.getElem?_take] at hv
  split at hv
  · rw [List.getElem?_drop] at hv; exact hv
  · cases hv
/-- a call, as one step of a statement that draws its order -/
theorem step_call {P : Program} {ops : Array Oper} {o : Oper} {a : Act} {w : World} {K : Act → World → Prop} {Q : Exit → Act → World → Prop} {E : Prop} (hgd : o.guard = none) {f : FuncId} {args : Array Value}
    (hr : (execOp a.eval o).run P w = .ok (.enter f args) w) (h : Calls P f args w fun e w' => ∃ v, e = .returned v ∧ K (a.put o.dst v) w') :
    if Region.wanted o (yielded ops a.tmps) = true then Oper.wp P o a w K Q else E := by
  have hw : Region.wanted o (yielded ops a.tmps) = true := by simp [Region.wanted, hgd]
  rw [if_pos hw]
  unfold Oper.wp
  rw [hr]
  exact h.mono fun e w' he => (by obtain ⟨v, rfl, hk⟩ := he; exact hk)
/-- what two blocks that meet leave -/
def MeetPost (W : World) (g : Nat) (zs : List Int) (e : Ending) (w' : World) : Prop :=
  e = .returned (.tuple #[]) ∧ Blk w' g 60 (zs.map (.int .i64)) ∧ ∀ B, B ≤ g → B ≤ W.heap.size → Below B W w'
theorem TurnB.cut {zs : List Int} (h : TurnB zs) (o n : Nat) : TurnB ((zs.drop o).take n) := fun k x hx => by
  rw [List.getElem?_take] at hx
  split at hx
  · rw [List.getElem?_drop] at hx; exact h _ _ hx
  · cases hx
theorem TurnB.bgt {zs : List Int} (h : TurnB zs) {k : Nat} (hk : k < zs.length) : Turnable (bgt zs k) := h k _ (get_bgt hk)

set_option maxRecDepth 100000 in
set_option maxHeartbeats 8000000 in
theorem MeetTurn_any (zs : List Int) (g oa : Nat) (w : World) (hz : oa + 32 ≤ zs.length) (hg : Blk w g 60 (zs.map (.int .i64))) (ht : TurnB zs) :
    Calls Tryz.prog 148 #[.agg lapA, .pointer (some ⟨g, oa, none⟩), .pointer (some ⟨g, oa + 16, none⟩), .func (.func 149) #[.agg turnsA] #[]] w (MeetPost w g (meetZ turnA turnB zs (oa + 16))) := by
  unfold MeetPost
  have hs1 := slice_low g oa
  have hs2 := slice_high g (oa + 16)
  have he : edge zs (oa + 16) = flipZ ((zs.drop (oa + 8)).take 8) 8 := rfl
  have hel := edge_len zs (oa + 16)
  have hl8 : ((zs.drop (oa + 8)).take 8).length = 8 := by rw [List.length_take, List.length_drop]; omega
  have H1 := Lib.hid (fun (W : World) (r : Row W W.heap.size (some ⟨g, oa + 8, none⟩) (((zs.drop (oa + 8)).take 8).map (.int .i64))) => (show Calls Tryz.prog 168 #[.slice (some ⟨g, oa + 8, none⟩) 8 8] W (NewRow W (edge zs (oa + 16))) by
    have := Flip_any ((zs.drop (oa + 8)).take 8) (some ⟨g, oa + 8, none⟩) 8 W (by omega) r
    rw [hl8] at this
    rw [he]; exact this))
  have H2 := Lib.hid (fun (W : World) (gx : Nat) (hne : gx ≠ g) (hx : Blk W gx 2 ((edge zs (oa + 16)).map (.int .i64))) (hb : Blk W g 60 (zs.map (.int .i64))) =>
    PairsTurn_any (edge zs (oa + 16)) zs gx g (oa + 16) 8 16 2 60 W hel (by omega) hne hx hb
      (fun k hk => by rw [edge_bgt _ (by omega) hk]; exact ht.bgt (by omega)) (fun k hk => ht.bgt (by omega)))
  have HAl := gA_len turnA (edge zs (oa + 16)) zs (oa + 16) 8
  have HBl := gB_len turnB (edge zs (oa + 16)) zs (oa + 16) 8
  have H3 := Lib.hid (fun (W : World) (gx : Nat) (hx : Blk W gx 2 ((gA turnA (edge zs (oa + 16)) zs (oa + 16) 8).map (.int .i64))) => (show Calls Tryz.prog 168 #[.slice (some ⟨gx, 0, none⟩) 8 8] W (NewRow W (flipZ (gA turnA (edge zs (oa + 16)) zs (oa + 16) 8) 8)) by
    have := Flip_any (gA turnA (edge zs (oa + 16)) zs (oa + 16) 8) (some ⟨gx, 0, none⟩) 8 W (by omega) (fun i v hv => ⟨gx, 0, rfl, hx.lt, by rw [hx.cell, Nat.zero_add]; exact hv⟩)
    rw [HAl] at this
    exact this))
  have HM := Lib.hid (show meetZ turnA turnB zs (oa + 16) = putAt (gB turnB (edge zs (oa + 16)) zs (oa + 16) 8) (oa + 8) (flipZ (gA turnA (edge zs (oa + 16)) zs (oa + 16) 8) 8) from rfl)
  have hFl := flipZ_len (gA turnA (edge zs (oa + 16)) zs (oa + 16) 8) 8
  rw [HM.out]
  unfold PTPost at H2
  generalize flipZ (gA turnA (edge zs (oa + 16)) zs (oa + 16) 8) 8 = FL at *
  have H2' := Lib.hid (show ∀ (W : World) (gx : Nat), gx ≠ g → Blk W gx 2 ((edge zs (oa + 16)).map (.int .i64)) → Blk W g 60 (zs.map (.int .i64)) →
    Calls Tryz.prog 149 #[.agg turnsA, .slice (some ⟨gx, 0, none⟩) 8 8, .slice (some ⟨g, oa + 16, none⟩) 8 16] W fun e w' => e = .returned (.tuple #[]) ∧ Blk w' gx 2 ((gA turnA (edge zs (oa + 16)) zs (oa + 16) 8).map (.int .i64)) ∧
      Blk w' g 60 ((gB turnB (edge zs (oa + 16)) zs (oa + 16) 8).map (.int .i64)) ∧ ∀ B, B ≤ gx → B ≤ g → B ≤ W.heap.size → Below B W w' from H2.out)
  clear H2 HM he
  generalize gA turnA (edge zs (oa + 16)) zs (oa + 16) 8 = GA at *
  generalize gB turnB (edge zs (oa + 16)) zs (oa + 16) 8 = GB at *
  generalize edge zs (oa + 16) = E at *
  generalize turnsA = tv at *
  generalize lapA = lv at *
  have G1 := Lib.hid (hg.alloc (.cells lv 139))
  have R1 := Lib.hid (row_part (hg.alloc (.cells lv 139)) (oa + 8) 8)
  have hgl := hg.lt
  have hEl : E.length = 8 := hel
  have HEl := Lib.hid hEl
  have HFl := Lib.hid hFl
  have HGB := Lib.hid HBl
  have h32 := hz
  clear hel hl8 HAl HBl hFl hz ht hg hEl
  go_enter Tryz.func148, Tryz.ntmps148
  go_wp2_with (go_at_call 168; fail)
  refine (H1.out _ R1.out).mono ?_
  rintro e w1 ⟨gx, rfl, hgx, hbx, hb1⟩
  have G2 := Lib.hid (G1.out.below hb1 G1.out.lt)
  have X2 := Lib.hid hbx
  have L1 := Lib.hid (bnext (bnew w _) hb1)
  have nx : gx ≠ g := by simp at hgx; omega
  have gx2 : w.heap.size < gx := by simp at hgx; omega
  rw [HEl.out]
  clear hbx hgx hb1 G1 R1
  go_wp2_with (go_at_call 149; fail)
  refine (H2'.out _ gx nx X2.out G2.out).mono ?_
  rintro e w2 ⟨rfl, hx2, hg2, hb2⟩
  have X3 := Lib.hid hx2
  have G3 := Lib.hid hg2
  have HBel := Lib.hid hb2
  have HF3 := Lib.hid (H3.out w2.drew gx (show Blk w2.drew gx _ _ from hx2))
  clear hx2 hg2 hb2 X2 G2 H1 H2' H3
  go_wp2_with fail
  go_region_law ((first
    | (refine step_call (f := 168) (args := #[.slice (some ⟨gx, 0, none⟩) 8 8]) rfl (by kernel_rfl) ?_; refine HF3.out.mono ?_; rintro e w3 ⟨gy, rfl, hgy, hby, hb3⟩; rw [HFl.out]; have G4 := Lib.hid ((show Blk w2.drew g _ _ from G3.out).below hb3 (show g < w2.drew.heap.size from G3.out.lt)); have Y4 := Lib.hid hby; have B4 := Lib.hid hb3; clear hby hb3 hgy; refine ⟨_, rfl, ?_⟩)
    | (refine step_copy_splice rfl (.tmp 21) (.tmp 23) 147 147 rfl 2 Tryz.underlying147 inf_int64 _ _ 8 8 8 8 (by rfl) (by rfl) g (oa + 8) (GB.map (Value.int .i64)) 60 G4.out (FL.map (Value.int .i64)) (by rw [List.length_map, HFl.out]; rfl) (fun _ => ⟨rfl, _, rfl, fun j v hv => by rw [add_off, Nat.zero_add, Y4.out.cell]; exact hv⟩) (by rw [List.length_map, List.length_map, HFl.out, HGB.out]; omega) (fun v hv => by obtain ⟨x, _, rfl⟩ := List.mem_map.1 hv; rfl) g _ (Below.refl _ _) (Nat.le_refl _) ?_; intro w4 hg4 hb4)))
  have HB4 := Lib.hid hb4
  clear hb4
  go_wp2
  refine bodyPost_end (v := .tuple #[]) (results_none Tryz.results148 _ _ _) rfl ?_
  refine ⟨rfl, ?_, fun B h1 h2 => ?_⟩
  · have := hg4.out
    rw [splice_putAt, ← putAt_map] at this
    exact this
  · have a1 := (L1.out.mono h2).trans (HBel.out B (by omega) h1 (Nat.le_trans h2 L1.out.size))
    have a2 := below_drewN a1 1
    have a3 := a2.trans (B4.out.mono (Nat.le_trans h2 a2.size))
    exact a3.trans (HB4.out.mono h1)

end Go.Proofs.YtoagdidkadfekaaGreatDoor

namespace Go.Proofs.YtoagdidkadfekaaGreatDoor
open Go.RowKit

theorem rowsTo_zero (sz c : Nat) (f : Nat → List Int) : (rowsTo sz c f 0).map (Value.int .i64) = List.replicate (c * sz) (.int .i64 0) := by
  have : rowsTo sz c f 0 = List.replicate (c * sz) 0 := by
    unfold rowsTo
    have : (List.range c).map (fun i => if i < 0 then f i else List.replicate sz (0 : Int)) = List.replicate c (List.replicate sz 0) := by
      apply List.ext_getElem?
      intro i
      rw [List.getElem?_map, List.getElem?_replicate]
      rcases Nat.lt_or_ge i c with hi | hi
      · rw [List.getElem?_range hi, if_pos hi]; simp
      · rw [List.getElem?_eq_none (by simpa using hi), if_neg (by omega)]; rfl
    rw [this, List.flatten_replicate_replicate]
  rw [this, List.map_replicate]
def gainsOf (l : List Int) : Nat → List Int := fun i => ofZ (blockAt (padZ l) i)
def gainsF (l : List Int) (size : Int) : List Int := rowsTo 4 (countN l.length) (gainsOf l) (if 55 ≤ size then 0 else countN l.length)
theorem padZ_len (l : List Int) : (padZ l).length = countN l.length * 16 := by simp [padZ]
theorem padZ_turn {l : List Int} (h : TurnB l) (i : Nat) : TurnB (blockAt (padZ l) i) := by
  intro k x hx
  have hx2 : x ∈ padZ l := quarter_mem x (List.mem_of_getElem? hx)
  unfold padZ at hx2
  obtain ⟨j, _, rfl⟩ := List.mem_map.1 hx2
  rcases Nat.lt_or_ge j l.length with hj | hj
  · have := h j _ (List.getElem?_eq_getElem hj)
    rw [bgt_get (List.getElem?_eq_getElem hj)]
    exact this
  · rw [bgt_out hj]; omega
theorem inf_4 : (Tryz.prog.info? 57).map (fun i => (i.zero, i.size, i.bytes)) = some (some (.agg (List.replicate 4 (Value.int .i64 0)).toArray), 4, 32) := by kernel_rfl
def NewGains (W : World) (c : Nat) (xs : List Int) (e : Ending) (w' : World) : Prop :=
  ∃ g, e = .returned (.slice (some ⟨g, 0, none⟩) c c) ∧ W.heap.size ≤ g ∧ Blk w' g 57 (xs.map (.int .i64)) ∧ Below W.heap.size W w'

set_option maxRecDepth 100000 in
set_option maxHeartbeats 4000000 in
theorem Gains_any (gc : Nat) (size : Int) (l : List Int) (A : Option Addr) (cap : Nat) (w : World) (hg : CoderAt w gc size) (hl : l.length ≤ 1000000) (hr : Row w w.heap.size A (l.map (.int .i64))) (ht : TurnB l) :
    Calls Tryz.prog 83 #[.pointer (some ⟨gc, 0, none⟩), .slice A l.length cap] w (NewGains w (countN l.length) (gainsF l size)) := by
  unfold NewGains gainsF
  have Hr := Lib.hid hr
  have HCn := Lib.hid (fun W => Count_any l.length W (by omega))
  have HBl := Lib.hid (fun W (hW : Below w.heap.size w W) => Blocks_any l A cap W (by omega) (hr.later hW))
  have HOf := Lib.hid (fun i W (hi : i < countN l.length) => Of_any (blockAt (padZ l) i) W (blockAt_len (padZ_len l) hi) (padZ_turn ht i))
  have HOl := Lib.hid (fun i => (show (gainsOf l i).length = 4 from ofTo_len _ 4))
  have HBk := Lib.hid (fun i (hi : i < countN l.length) => blockAt_len (padZ_len l) hi)
  have hcc : countN l.length ≤ 1000000 := by unfold countN; omega
  have Hpl := Lib.hid (padZ_len l)
  obtain ⟨n, hn⟩ : ∃ n, l.length = n := ⟨_, rfl⟩
  rw [hn] at hl hcc HCn HBl HOf HBk Hpl ⊢
  generalize countN n = c at *
  obtain ⟨i0, hi, hz0, hz1, hz2⟩ : ∃ i, Tryz.prog.info? 57 = some i ∧ i.zero = some (.agg (List.replicate 4 (Value.int .i64 0)).toArray) ∧ i.size = 4 ∧ i.bytes = 32 := by
    have := inf_4
    cases h : Tryz.prog.info? 57 with
    | none => rw [h] at this; cases this
    | some i =>
      rw [h] at this
      simp only [Option.map_some, Option.some.injEq, Prod.mk.injEq] at this
      exact ⟨i, rfl, this.1, this.2.1, this.2.2⟩
  have Hms := Lib.hid (show (madeCells (Value.agg (List.replicate 4 (Value.int .i64 0)).toArray).cells (c * 4)).toList = List.replicate (c * 4) (.int .i64 0) from toList_made_rep _ _ (by decide) (fun j hj => by
    have hj16 : j < 4 := hj
    have hk : j = 0 ∨ j = 1 ∨ j = 2 ∨ j = 3 := by omega
    rcases hk with rfl | rfl | rfl | rfl <;> rfl) _)
  obtain ⟨mc, hmc⟩ : ∃ mc, madeCells (Value.agg (List.replicate 4 (Value.int .i64 0)).toArray).cells (c * 4) = mc := ⟨_, rfl⟩
  rw [hmc] at Hms
  have hmc2 : mc = ((rowsTo 4 c (gainsOf l) 0).map (Value.int .i64)).toArray := by
    apply Array.toList_inj.1
    rw [Hms.out, rowsTo_zero]
  have HB0 := Lib.hid (show Blk (w.alloc (.cells mc 57)) w.heap.size 57 ((rowsTo 4 c (gainsOf l) 0).map (.int .i64)) by rw [hmc2]; exact Blk.new w _ _)
  have HX := Lib.hid (CExact_any gc size (w.alloc (.cells mc 57)) (hkeep hg (bnew w _)))
  clear hr hn hmc2 Hms hg ht
  by_cases h55 : 55 ≤ size
  · rw [if_pos h55]
    have e1 : decide (55 ≤ size) = true := decide_eq_true h55
    rw [e1] at HX
    go_enter Tryz.func83, Tryz.ntmps83
    go_wp2_with (first | (go_at_call 62; refine (HCn.out _).mono ?_; rintro e w1 ⟨rfl, rfl⟩) | (refine wpList_make_rows w rfl (.tmp 10) (.tmp 10) 149 rfl 57 i0 (.agg (List.replicate 4 (Value.int .i64 0)).toArray) 4 Tryz.underlying149 hi hz0 hz1 .i64 .i64 c rfl rfl (by rw [hz2]; omega) (by omega) ?_; rw [hmc]) | (go_at_call 112; refine HX.out.mono ?_; rintro e w1 ⟨rfl, rfl⟩))
    go_ret
    exact ⟨w.heap.size, rfl, Nat.le_refl _, HB0.out, bnew w _⟩
  · rw [if_neg h55]
    have e1 : decide (55 ≤ size) = false := decide_eq_false h55
    rw [e1] at HX
    go_enter Tryz.func83, Tryz.ntmps83
    go_wp2_with (first | (go_at_call 62; refine (HCn.out _).mono ?_; rintro e w1 ⟨rfl, rfl⟩) | (refine wpList_make_rows w rfl (.tmp 10) (.tmp 10) 149 rfl 57 i0 (.agg (List.replicate 4 (Value.int .i64 0)).toArray) 4 Tryz.underlying149 hi hz0 hz1 .i64 .i64 c rfl rfl (by rw [hz2]; omega) (by omega) ?_; rw [hmc]) | (go_at_call 112; refine HX.out.mono ?_; rintro e w1 ⟨rfl, rfl⟩) | (go_at_call 113; fail))
    refine (HBl.out _ (bnew w _)).mono ?_
    rintro e w2 ⟨gb, rfl, hgb, hbb, hb2⟩
    have HG2 := Lib.hid (HB0.out.below hb2 HB0.out.lt)
    have HP2 := Lib.hid hbb
    have HB2 := Lib.hid (bnext (bnew w _) hb2)
    have hne : gb ≠ w.heap.size := by simp at hgb; omega
    have hgbw : w.heap.size < gb := by simp at hgb; omega
    clear hb2 hbb hgb HB0 HX
    go_wp2
    go_loopw [18] (fun i wr => ∃ m : Nat, m ≤ c ∧ i = .int .i64 m ∧ Blk wr w.heap.size 57 ((rowsTo 4 c (gainsOf l) m).map (.int .i64)) ∧ Blk wr gb 60 ((padZ l).map (.int .i64)) ∧ Below w.heap.size w wr) (fun i _ => c - (intOf i).toNat)
    case atStart => exact ⟨0, by omega, rfl, HG2.out, HP2.out, HB2.out⟩
    case round =>
      obtain ⟨m, hm, rfl, hG, hP, hbel⟩ := hrel
      have HG := Lib.hid hG
      have HP := Lib.hid hP
      have Hbel := Lib.hid hbel
      clear HG2 HP2 HB2 hG hP hbel
      by_cases hlk : m < c
      · have t1 : (m : Int) < (c : Int) := by omega
        have HO := Lib.hid (fun W => HOf.out m W hlk)
        have HS := Lib.hid (rowsTo_succ HOl.out (by omega) hlk)
        have hbl := HBk.out m hlk
        have hgl := HOl.out m
        have hrl := rowsTo_len HOl.out (sz := 4) (c := c) m
        have HX := Lib.hid (fun (j : Nat) (v : Value) (hv : ((blockAt (padZ l) m).map (Value.int .i64))[j]? = some v) => (show wr.cell? ⟨gb, m * 16 + j, none⟩ = some v by
          rw [HP.out.cell, List.getElem?_map]
          rw [List.getElem?_map] at hv
          unfold blockAt at hv
          rw [List.getElem?_take] at hv
          split at hv
          · rw [List.getElem?_drop] at hv; exact hv
          · cases hv))
        have HGo := Lib.hid (show gainsOf l m = ofZ (blockAt (padZ l) m) from rfl)
        rw [HGo.out] at HS hgl
        obtain ⟨R1, hR1⟩ : ∃ R1, rowsTo 4 c (gainsOf l) (m + 1) = R1 := ⟨_, rfl⟩
        have HR1 := Lib.hid hR1
        rw [hR1] at HS
        clear hR1
        generalize rowsTo 4 c (gainsOf l) m = R0 at *
        unfold blockV at HO
        have Hy1 := Lib.hid (fun u (hu : u ∈ (ofZ (blockAt (padZ l) m)).map (Value.int .i64)) => (show u.oneCell' = true by
          obtain ⟨y, _, rfl⟩ := List.mem_map.1 hu
          rfl))
        have HSm := Lib.hid (show (putAt R0 (m * 4) (ofZ (blockAt (padZ l) m))).map (Value.int .i64) = R1.map (.int .i64) by rw [HS.out])
        rw [putAt_map] at HSm
        have hxl : ((blockAt (padZ l) m).map (Value.int .i64)).length = 16 := by rw [List.length_map, hbl]
        have hyl : ((ofZ (blockAt (padZ l) m)).map (Value.int .i64)).length = 4 := by rw [List.length_map, hgl]
        have hx1 := ints_one (blockAt (padZ l) m)
        generalize (blockAt (padZ l) m).map (Value.int .i64) = xs at *
        generalize (ofZ (blockAt (padZ l) m)).map (Value.int .i64) = ys at *
        have HFx := Lib.hid (show (Tryz.prog.info? 60).map (·.size) = some xs.length by rw [hxl]; exact inf_block)
        have HFa := Lib.hid (show (Tryz.prog.info? 60).map (·.size) = some xs.toArray.size by rw [List.size_toArray, hxl]; exact inf_block)
        have HFy := Lib.hid (show (Tryz.prog.info? 57).map (·.size) = some ys.length by rw [hyl]; exact inf_four)
        have Hxl := Lib.hid hxl
        have Hx1 := Lib.hid hx1
        have Hrl := Lib.hid (show m * 4 + ys.length ≤ (R0.map (Value.int .i64)).length by rw [hyl, List.length_map, hrl]; omega)
        clear hxl hyl hx1 hbl hgl hrl HS HGo
        have HN := Lib.hid (heap_alloc_new wr (.cells xs.toArray 60))
        go_wp2_with (first | (go_at_call 114; fail) | (refine wpList_load_part_w rfl 60 (.tmp 21) rfl gb (m * 16) rfl xs _ HX.out Tryz.underlying60 rfl HFx.out ?_) | (refine wpList_store_row_w rfl 60 (.tmp 7) (.tmp 22) rfl wr.heap.size rfl _ _ xs.toArray rfl (heap_alloc_new wr _) HFa.out (by show (16 : Nat) = _; rw [List.size_toArray, Hxl.out]) Hx1.out ?_; rw [World.setRow_alloc_new]) | (refine wpList_load_row_w rfl 60 (.tmp 7) rfl wr.heap.size rfl _ xs.toArray _ _ HN.out Tryz.underlying60 rfl HFa.out ?_))
        refine (HO.out _).mono ?_
        rintro e w3 ⟨rfl, hb3⟩
        have hb4 := bnext (bnew wr (.cells xs.toArray 60)) hb3
        have G3 := Lib.hid (HG.out.below hb4 HG.out.lt)
        have P3 := Lib.hid (HP.out.below hb4 HP.out.lt)
        have L3 := Lib.hid (bnext Hbel.out hb4)
        clear hb3 hb4
        go_wp2_with (refine wpList_store_part_w rfl 57 (.tmp 27) (.tmp 26) rfl w.heap.size (m * 4) rfl _ _ ys rfl G3.out HFy.out Hrl.out Hy1.out ?_; rw [HSm.out])
        go_roundw
        case rel => exact ⟨m + 1, by omega, by go_num, by rw [HR1.out]; exact setRow_at w3 _ _ _ _ G3.out, (setRow_other _ _ _ _ (by omega)).trans P3.out, setRow_below L3.out _ (by omega) _⟩
        case measure => simp [intOf]; omega
      · have hmc : m = c := by omega
        have t1 : ¬ ((m : Int) < (c : Int)) := by omega
        subst hmc
        go_wp2
        go_ret
        exact ⟨w.heap.size, rfl, Nat.le_refl _, HG.out, Hbel.out⟩
end Go.Proofs.YtoagdidkadfekaaGreatDoor

namespace Go.Proofs.YtoagdidkadfekaaGreatDoor

def upF (gs : List Int) (i : Nat) (b : List Int) : List Int := valuesTo b (rowAt 4 gs i) 16
/-- gains for so many blocks -/
def GainsOk (gs : List Int) (c : Nat) : Prop := gs.length = c * 4 ∧ ∀ i, i < c → GainB (rowAt 4 gs i)
theorem up_bd {M : Int} {b g : List Int} (hb : b.length = 16) (hg : GainB g) (h : BdL M b) : BdL (8 * M) (valuesTo b g 16) := by
  intro j hj
  rw [valuesTo_len] at hj
  rw [valuesTo_bgt _ _ hj, if_pos hj]
  have h1 := h j (by omega)
  obtain ⟨x, hx⟩ := list_get (k := j / 4) hg.1 (by omega)
  have h2 := hg.get hx
  rw [bgt_get hx]
  obtain ⟨k, hk⟩ : ∃ k, x.toNat = k := ⟨_, rfl⟩
  rw [hk]
  have hk4 : k = 0 ∨ k = 1 ∨ k = 2 ∨ k = 3 := by omega
  rcases hk4 with rfl | rfl | rfl | rfl
  · rw [show (2 : Int) ^ 0 = 1 by decide]; omega
  · rw [show (2 : Int) ^ 1 = 2 by decide]; omega
  · rw [show (2 : Int) ^ 2 = 4 by decide]; omega
  · rw [show (2 : Int) ^ 3 = 8 by decide]; omega
def upsZ (p gs : List Int) (c : Nat) : List Int := blkTo (upF gs) p c c
def specsZ (p gs : List Int) (c : Nat) : List Int := blkTo (fun _ => fwdZ) (joinTo (upsZ p gs c) c) c c
theorem upF_len {gs : List Int} {c : Nat} : ∀ i b, i < c → b.length = 16 → (upF gs i b).length = 16 := fun _ _ _ _ => valuesTo_len _ _ _
theorem fwdF_len {c : Nat} : ∀ i b, i < c → b.length = 16 → ((fun _ => fwdZ) i b : List Int).length = 16 := fun _ b _ _ => fwdZ_len b
theorem upsZ_len {p gs : List Int} {c : Nat} (hp : p.length = c * 16) : (upsZ p gs c).length = c * 16 := blkTo_len upF_len hp c
theorem join_len {p : List Int} {c m : Nat} (hp : p.length = c * 16) : (joinTo p m).length = c * 16 := (pairTo_len _ _ _ _).trans hp
theorem specsZ_len {p gs : List Int} {c : Nat} (hp : p.length = c * 16) : (specsZ p gs c).length = c * 16 := blkTo_len fwdF_len (join_len (upsZ_len hp)) c
theorem upsZ_bd {M : Int} {p gs : List Int} {c m : Nat} (hp : p.length = c * 16) (hg : GainsOk gs c) (h : BdL M p) (hM : 0 ≤ M) : BdL (8 * M) (blkTo (upF gs) p c m) :=
  blkTo_bd upF_len hp h (by omega) (fun i _ hi hb hl => up_bd hb (hg.2 i hi) hl)
theorem specsZ_bd {M : Int} {p gs : List Int} {c : Nat} (hp : p.length = c * 16) (hg : GainsOk gs c) (h : BdL M p) (hM : 0 ≤ M) : BdL (72 * M + 84) (specsZ p gs c) := by
  have h1 := joinTo_bd (N := 12 * M + 4) (upsZ_len hp) (Nat.le_refl c) (upsZ_bd (m := c) hp hg h hM) (by omega) (by omega)
  exact blkTo_bd fwdF_len (join_len (upsZ_len hp)) h1 (by omega) (fun _ b _ hb hl => fwdZ_bd hb hl (by omega) (by omega))
theorem padZ_bd {M : Int} {l : List Int} (h : ∀ x ∈ l, -M ≤ x ∧ x ≤ M) (hM : 0 ≤ M) : BdL M (padZ l) := by
  intro j hj
  rw [padZ_len] at hj
  unfold padZ
  rw [bgt_get (range_map_get _ hj)]
  rcases Nat.lt_or_ge j l.length with h1 | h1
  · exact h _ (List.mem_of_getElem? (get_bgt h1))
  · rw [bgt_out h1]; omega
theorem gainsF_ok (l : List Int) (size : Int) : GainsOk (gainsF l size) (countN l.length) := by
  have hf : ∀ i, (gainsOf l i).length = 4 := fun i => ofTo_len _ 4
  refine ⟨rowsTo_len hf _, fun i hi => ?_⟩
  have hl : (rowAt 4 (gainsF l size) i).length = 4 := rowAt_len (rowsTo_len hf _) hi
  have hget : ∀ j, j < 4 → (rowAt 4 (gainsF l size) i)[j]? = if i < (if 55 ≤ size then 0 else countN l.length) then (gainsOf l i)[j]? else some 0 := fun j hj => by
    rw [rowAt_get _ _ hj]
    exact rowsTo_get hf hi hj
  by_cases h : i < (if 55 ≤ size then 0 else countN l.length)
  · have : rowAt 4 (gainsF l size) i = gainsOf l i := by
      apply List.ext_getElem?
      intro j
      rcases Nat.lt_or_ge j 4 with hj | hj
      · rw [hget j hj, if_pos h]
      · rw [List.getElem?_eq_none (by omega), List.getElem?_eq_none (by rw [hf]; exact hj)]
    rw [this]
    exact ofZ_gain _
  · have : rowAt 4 (gainsF l size) i = [0, 0, 0, 0] := by
      apply List.ext_getElem?
      intro j
      rcases Nat.lt_or_ge j 4 with hj | hj
      · rw [hget j hj, if_neg h]
        match j, hj with
        | 0, _ | 1, _ | 2, _ | 3, _ => rfl
      · rw [List.getElem?_eq_none (by omega), List.getElem?_eq_none (by exact hj)]
    rw [this]
    exact ⟨rfl, rfl⟩
end Go.Proofs.YtoagdidkadfekaaGreatDoor

namespace Go.Proofs.YtoagdidkadfekaaGreatDoor
open Go.RowKit

theorem toList_zero_rep (z : Array Value) (v : Value) (hp : 0 < z.size) (hz : ∀ j, j < z.size → z[j]! = v) (n : Nat) : (Builtin.zeroCells z n).toList = List.replicate (n * z.size) v := by
  unfold Builtin.zeroCells
  rw [Array.toList_map, Array.toList_range]
  apply List.ext_getElem?
  intro k
  rw [List.getElem?_map, List.getElem?_replicate]
  rcases Nat.lt_or_ge k (n * z.size) with h | h
  · rw [List.getElem?_range h, if_pos h]
    show some (z[k % z.size]!) = some v
    rw [hz _ (Nat.mod_lt _ hp)]
  · rw [List.getElem?_eq_none (by simpa using h), if_neg (by omega)]; rfl
section
variable {P : Program}
/-- append to nil, exactly -/
theorem wpList_app_new {ops : Array Oper} {rest : List Oper} {o : Oper} {a : Act} {w : World} {Q : Exit → Act → World → Prop} (hgd : o.guard = none) (s x : Operand) (t : TypeId)
    (ho : o.op = .call { callee := .builtin .append, args := #[s, x], argTypes := #[t, t] })
    (e : TypeId) (i : TypeInfo) (z : Value) (size bytes : Nat) (ht : P.underlying t = some (.slice e)) (hi : P.info? e = some i) (hz : i.zero = some z)
    (hsize : i.size = size) (hby : i.bytes = bytes) (hs : a.eval s = .slice none 0 0)
    (B : Nat) (A : Addr) (m c : Nat) (news : List Value) (hx : a.eval x = .slice (some A) m c) (hl : news.length = m * size) (hr : Row w B (some A) news)
    (h0 : 0 < m) (h63 : m ≤ 9223372036854775807) (hbytes : m * bytes ≤ 281474976710656)
    (h : ∀ c', m ≤ c' → wpList P ops Q rest (a.put o.dst (.slice (some ⟨w.heap.size, 0, none⟩) m c')) (w.drew.alloc (.cells (news.toArray ++ Builtin.zeroCells z.cells (c' - m)) e))) :
    wpList P ops Q (o :: rest) a w := by
  refine wpList_plain hgd fun K hK => ?_
  have hcells : ∀ j u, news[j]? = some u → w.cell? (A.add j) = some u := by
    intro j u hu
    obtain ⟨b, off, h, _, hc⟩ := hr j u hu
    injection h with h
    subst h
    unfold Addr.add
    by_cases hj : j = 0
    · subst hj; simpa using hc
    · simp [hj]; exact hc
  have hrun := run_append_nil (P := P) w t o.type e i z ht hi hz A m c news (by rw [hsize]; exact hl) hcells h0 (by omega) (by rw [hby]; exact hbytes)
  unfold Oper.wp
  simp [execOp, ho, resolve, invoke, builtin, hs, hx, hrun, Result.andThen]
  exact hK _ _ (h _ (grownCap_ge w m 0 e))
end
/-- a block that was lengthened -/
theorem putAt_app {α : Type} {l pad : List α} {off : Nat} {xs : List α} (h : off + xs.length ≤ l.length) : putAt (l ++ pad) off xs = putAt l off xs ++ pad := by
  unfold putAt
  rw [List.take_append_of_le_length (by omega), List.drop_append_of_le_length (by omega), List.append_assoc, List.append_assoc, List.append_assoc]
theorem bgt_app (p pad : List Int) (j : Nat) : bgt (p ++ pad) j = if j < p.length then bgt p j else bgt pad (j - p.length) := by
  rw [bgt_opt]
  split
  · rename_i h; rw [List.getElem?_append_left h, bgt_opt]
  · rename_i h; rw [List.getElem?_append_right (by omega), bgt_opt]
theorem pairTo_app (fa fb : Int → Int → TurnV → Int) {p pad : List Int} {c m : Nat} (hp : p.length = c * 16) (hm : m ≤ c) : pairTo fa fb (p ++ pad) m = pairTo fa fb p m ++ pad := by
  refine bgt_ext (n := (p ++ pad).length) (pairTo_len _ _ _ _) (by rw [List.length_append, List.length_append, pairTo_len]) (fun j hj => ?_)
  rw [pairTo_bgt _ _ _ _ hj, bgt_app (pairTo fa fb p m), pairTo_len]
  by_cases hl : j < p.length
  · rw [if_pos hl, pairTo_bgt _ _ _ _ hl]
    by_cases hc : 1 ≤ (j + 8) / 16 ∧ (j + 8) / 16 < m
    · have e1 : bgt (p ++ pad) j = bgt p j := by rw [bgt_app, if_pos hl]
      have e2 : bgt (p ++ pad) ((j + 8) / 16 * 32 - 1 - j) = bgt p ((j + 8) / 16 * 32 - 1 - j) := by rw [bgt_app, if_pos (by omega)]
      rw [if_pos hc, if_pos hc, e1, e2]
    · rw [if_neg hc, if_neg hc, bgt_app, if_pos hl]
  · rw [if_neg hl, if_neg (by omega), bgt_app, if_neg hl]
theorem BdL.pad {M : Int} {p : List Int} (h : BdL M p) (hM : 0 ≤ M) (n : Nat) : BdL M (p ++ List.replicate n 0) := by
  intro j hj
  rw [bgt_app]
  split
  · rename_i h1; exact h j h1
  · rw [bgt_opt, List.getElem?_replicate]
    split <;> (simp only [Option.getD_some, Option.getD_none]; omega)
/-- blocks in a row of their own -/
def OwnBlocks (W : World) (c : Nat) (q : List Int) (e : Ending) (w' : World) : Prop :=
  ∃ A cap, e = .returned (.slice A c cap) ∧ Below W.heap.size W w' ∧ c ≤ cap ∧ (c = 0 ∨ ∃ g n, A = some ⟨g, 0, none⟩ ∧ W.heap.size ≤ g ∧ Blk w' g 60 ((q ++ List.replicate n 0).map (.int .i64)))
theorem blk_info : ∃ i, Tryz.prog.info? 60 = some i ∧ i.zero = some (.agg (List.replicate 16 (Value.int .i64 0)).toArray) ∧ i.size = 16 ∧ i.bytes = 128 := by
  have := inf_blk
  cases h : Tryz.prog.info? 60 with
  | none => rw [h] at this; cases this
  | some i =>
    rw [h] at this
    simp only [Option.map_some, Option.some.injEq, Prod.mk.injEq] at this
    exact ⟨i, rfl, this.1, this.2.1, this.2.2⟩
theorem blk_zeros (n : Nat) : (Builtin.zeroCells (Value.agg (List.replicate 16 (Value.int .i64 0)).toArray).cells n).toList = (List.replicate (n * 16) (0 : Int)).map (.int .i64) := by
  rw [List.map_replicate]
  exact toList_zero_rep _ _ (by decide) (fun j hj => by
    have hj16 : j < 16 := hj
    have hk : j = 0 ∨ j = 1 ∨ j = 2 ∨ j = 3 ∨ j = 4 ∨ j = 5 ∨ j = 6 ∨ j = 7 ∨ j = 8 ∨ j = 9 ∨ j = 10 ∨ j = 11 ∨ j = 12 ∨ j = 13 ∨ j = 14 ∨ j = 15 := by omega
    rcases hk with rfl | rfl | rfl | rfl | rfl | rfl | rfl | rfl | rfl | rfl | rfl | rfl | rfl | rfl | rfl | rfl <;> rfl) n

set_option maxRecDepth 100000 in
set_option maxHeartbeats 8000000 in
theorem Join_any (p : List Int) (c : Nat) (A : Option Addr) (cap : Nat) (w : World) (hp : p.length = c * 16) (hc : c ≤ 1000000) (hr : Row w w.heap.size A (p.map (.int .i64))) (hb : BdL 300000000000 p) :
    Calls Tryz.prog 116 #[.agg lapA, .slice A c cap] w (OwnBlocks w c (joinTo p c)) := by
  obtain ⟨i0, hi, hz0, hz1, hz2⟩ := blk_info
  have Hz := Lib.hid blk_zeros
  have Hr := Lib.hid (hr.later (bnew w (.cells lapA 139)))
  rcases Nat.eq_zero_or_pos c with rfl | h0
  · have hp0 : p = [] := List.eq_nil_of_length_eq_zero (by omega)
    subst hp0
    have HO := Lib.hid (World.ownsRow_nil (w.alloc (.cells lapA 139)) w.heap.size 60 16)
    clear hr hb hp
    generalize lapA = lv at *
    have t1 : ¬ ((1 : Int) < ((0 : Nat) : Int)) := by omega
    go_enter Tryz.func116, Tryz.ntmps116
    go_wp2_with (at_builtin; refine wpList_app _ rfl (.const (.slice none 0 0)) (.tmp 7) 151 rfl w.heap.size 60 i0 _ 16 128 Tryz.underlying151 hi hz0 hz1 hz2 rfl (by omega) (.slice none 0 0) 0 [] rfl HO.out _ A 0 cap [] rfl rfl Hr.out nofun (by omega) (by omega) (by simp) ?_; intro A2 cc w2 hown2 hgrow hat hcc)
    have HA := Lib.hid ((bnew w (.cells lv 139)).grown hgrow (by simp) (fun g h => by cases h))
    clear hown2 hgrow hat HO Hr
    go_loopw [6] (fun i wr => i = .int .i64 1 ∧ wr = w2) (fun _ _ => 0)
    case atStart => exact ⟨rfl, rfl⟩
    case round =>
      obtain ⟨rfl, rfl⟩ := hrel
      go_wp2
      go_ret
      exact ⟨A2, cc, rfl, HA.out, Nat.zero_le _, .inl rfl⟩
  · have hA : ∃ ad, A = some ad := by
      obtain ⟨x, hx⟩ := list_get (k := 0) hp (by omega)
      obtain ⟨b, off, h, _⟩ := hr 0 (.int .i64 x) (by rw [List.getElem?_map, hx]; rfl)
      exact ⟨_, h⟩
    obtain ⟨ad, rfl⟩ := hA
    have HN := Lib.hid (fun (n : Nat) m (hm : m ≤ c) => (show TurnB (joinTo p m ++ List.replicate n 0) from (((joinTo_bd (N := 450000000004) hp hm hb (by omega) (by omega)).pad (by omega) n).turnB (by omega))))
    have HS := Lib.hid (fun (n i : Nat) (h1 : 1 ≤ i) (h2 : i < c) => (show meetZ turnA turnB (joinTo p i ++ List.replicate (n * 16) 0) ((i - 1) * 16 + 16) = joinTo p (i + 1) ++ List.replicate (n * 16) 0 by
      have e1 := meet_pair turnA turnB (p := p ++ List.replicate (n * 16) 0) (c := c + n) (i := i) (by rw [List.length_append, List.length_replicate, hp]; omega) h1 (by omega)
      rw [pairTo_app _ _ hp (by omega), pairTo_app _ _ hp (by omega)] at e1
      rw [show (i - 1) * 16 + 16 = i * 16 by omega]
      exact e1))
    have HL := Lib.hid (fun m => (show (joinTo p m).length = c * 16 from (pairTo_len _ _ _ _).trans hp))
    have H1 := Lib.hid (show joinTo p 1 = p from pairTo_one _ _ p (Nat.le_refl 1))
    have HMt := Lib.hid (fun zs g oa W hz hg ht => MeetTurn_any zs g oa W hz hg ht)
    have hlz := lapA_size
    obtain ⟨tv, htv, Htx⟩ : ∃ tv : List Value, tv.length = 16 ∧ turnsA = tv.toArray := ⟨turnsA.toList, by rw [Array.length_toList, turnsA_size], by simp⟩
    have HLa := Lib.hid (fun j v (hv : tv[j]? = some v) => (show lapA[0 + j]? = some v by
      unfold lapA
      have hj : j < 16 := by have := (List.getElem?_eq_some_iff.1 hv).1; omega
      rw [Nat.zero_add, Array.getElem?_append_left (by rw [turnsA_size]; exact hj), Htx, List.getElem?_toArray]
      exact hv))
    rw [Htx] at HMt
    clear hr Htx
    generalize lapA = lv at *
    have HFl := Lib.hid (show (Tryz.prog.info? 139).map (·.size) = some lv.size by rw [hlz]; exact inf_lap)
    have HFp := Lib.hid (show (Tryz.prog.info? 135).map (·.size) = some tv.length by rw [htv]; exact inf_pairs)
    have Hpl := Lib.hid (show (p.map (Value.int .i64)).length = c * 16 by rw [List.length_map, hp])
    have HB0 := Lib.hid (bnew w (.cells lv 139))
    have HN0 := Lib.hid (heap_alloc_new w (.cells lv 139))
    clear hb hlz hp
    have HV := Lib.hid (fun c' (hcc : c ≤ c') => (show ∃ V n, (w.alloc (.cells lv 139)).drew.alloc (.cells ((p.map (Value.int .i64)).toArray ++ Builtin.zeroCells (Value.agg (List.replicate 16 (Value.int .i64 0)).toArray).cells (c' - c)) 60) = V ∧
        Blk V (w.heap.size + 1) 60 ((joinTo p 1 ++ List.replicate (n * 16) 0).map (.int .i64)) ∧ V.heap[w.heap.size]? = some (.cells lv 139 (0, 0)) ∧ Below w.heap.size w V from by
      have e : (p.map (Value.int .i64)).toArray ++ Builtin.zeroCells (Value.agg (List.replicate 16 (Value.int .i64 0)).toArray).cells (c' - c) = ((joinTo p 1 ++ List.replicate ((c' - c) * 16) 0).map (Value.int .i64)).toArray := by
        apply Array.toList_inj.1
        rw [Array.toList_append, Hz.out, List.map_append, H1.out]
      refine ⟨_, c' - c, rfl, ?_, (heap_alloc_old _ _ (by simp)).trans HN0.out, (below_drewN HB0.out 1).alloc (by simp) _⟩
      rw [e]
      have := Blk.new (w.alloc (.cells lv 139)).drew 60 ((joinTo p 1 ++ List.replicate ((c' - c) * 16) 0).map (.int .i64))
      simpa using this))
    clear Hz HB0 HN0
    go_enter Tryz.func116, Tryz.ntmps116
    go_wp2_with (at_builtin; refine wpList_app_new rfl (.const (.slice none 0 0)) (.tmp 7) 151 rfl 60 i0 _ 16 128 Tryz.underlying151 hi hz0 hz1 hz2 rfl _ ad c cap (p.map (.int .i64)) rfl Hpl.out Hr.out h0 (by omega) (by omega) ?_; intro c' hcc; obtain ⟨V, n, hV, Hrow, Hlap, Hbel⟩ := HV.out c' hcc; rw [hV]; clear hV; have Hrow := Lib.hid Hrow; have Hlap := Lib.hid Hlap; have Hbel := Lib.hid Hbel; have Hcc := Lib.hid hcc; clear hcc)
    clear HV Hr Hpl
    go_loopw [6] (fun i wr => ∃ j : Nat, 1 ≤ j ∧ j ≤ c ∧ i = .int .i64 j ∧ Blk wr (w.heap.size + 1) 60 ((joinTo p j ++ List.replicate (n * 16) 0).map (.int .i64)) ∧ wr.heap[w.heap.size]? = some (.cells lv 139 (0, 0)) ∧ Below w.heap.size w wr) (fun i _ => c - (intOf i).toNat)
    case atStart => exact ⟨1, by omega, by omega, rfl, Hrow.out, Hlap.out, Hbel.out⟩
    case round =>
      obtain ⟨j, hj1, hjc, rfl, hB, hlap, hbel⟩ := hrel
      have HB := Lib.hid hB
      have Hla := Lib.hid hlap
      have Hbe := Lib.hid hbel
      clear Hrow Hlap Hbel hB hlap hbel
      by_cases hlk : j < c
      · obtain ⟨m, rfl⟩ : ∃ m, j = m + 1 := ⟨j - 1, by omega⟩
        have t1 : ((m + 1 : Nat) : Int) < (c : Int) := by omega
        have t2 : ((m + 1 : Nat) : Int) - 1 = (m : Int) := by omega
        have t3 : (0 : Int) ≤ (m : Int) := by omega
        have t4 : (m : Int) < (c : Int) := by omega
        have t5 : (0 : Int) ≤ ((m + 1 : Nat) : Int) := by omega
        have HSm := HS.out n (m + 1) hj1 hlk
        have HNm := HN.out (n * 16) (m + 1) hjc
        rw [show m + 1 - 1 = m by omega] at HSm
        have HC := Lib.hid (fun (W : World) (hW : Blk W (w.heap.size + 1) 60 ((joinTo p (m + 1) ++ List.replicate (n * 16) 0).map (.int .i64))) => (show Calls Tryz.prog 148 #[.agg lv, .pointer (some ⟨w.heap.size + 1, m * 16, none⟩), .pointer (some ⟨w.heap.size + 1, (m + 1) * 16, none⟩), .func (.func 149) #[.agg tv.toArray] #[]] W (MeetPost W (w.heap.size + 1) (joinTo p (m + 1 + 1) ++ List.replicate (n * 16) 0)) by
          have := HMt.out _ (w.heap.size + 1) (m * 16) W (by rw [List.length_append, HL.out]; omega) hW HNm
          rw [HSm] at this
          rw [show (m + 1) * 16 = m * 16 + 16 by omega]
          exact this))
        have x5 := gw_heap Hla.out
        have y5 := fun W hW j v hv => (show World.cell? W ⟨w.heap.size, 0 + j, none⟩ = some v from (cell_of_row _ _ _ _ _ _ (x5 W hW)).trans (HLa.out j v hv))
        clear HSm HNm
        go_wp2_with fail
        refine wp_region_calm_tail 11 (by kernel_rfl) (by kernel_rfl) ?_
        simp only [List.take_succ_cons, List.take_zero, List.drop_succ_cons, List.drop_zero]
        repeat (first | (go_big_quiet_want; refine quiet_load_row 139 (.tmp 2) rfl w.heap.size rfl _ lv _ _ x5 Tryz.underlying139 rfl HFl.out ?_; go_simp; go_big_quiet_on) | (go_big_quiet_want; refine quiet_load_part 135 (.tmp 23) rfl w.heap.size 0 rfl tv _ y5 Tryz.underlying135 rfl HFp.out ?_; go_simp; go_big_quiet_on) | go_big_quiet_step (fail))
        refine wpQuiet_nil ?_
        intro w5 hw'
        have hb5 := gw_below hw'
        have B5 := Lib.hid (HB.out.below hb5 HB.out.lt)
        have L5 := Lib.hid (hkeep Hla.out hb5)
        have E5 := Lib.hid (bnext Hbe.out hb5)
        clear hw' hb5 x5 y5
        go_wp2_with (go_at_call 148; fail)
        refine (HC.out _ B5.out).mono ?_
        rintro e w6 ⟨rfl, hB6, hb6⟩
        have hB6' := Lib.hid hB6
        have L6 := Lib.hid ((hb6 (w.heap.size + 1) (Nat.le_refl _) (by have := B5.out.lt; omega)).block w.heap.size (by omega) |>.trans L5.out)
        have E6 := Lib.hid (E5.out.trans (hb6 w.heap.size (by omega) E5.out.size))
        clear hB6 hb6
        go_wp2
        go_roundw
        case rel => exact ⟨m + 1 + 1, by omega, by omega, by go_num, hB6'.out, L6.out, E6.out⟩
        case measure => simp [intOf]; omega
      · have hjc' : j = c := by omega
        subst hjc'
        have t1 : ¬ ((j : Int) < (j : Int)) := by omega
        go_wp2
        go_ret
        exact ⟨_, _, rfl, Hbe.out, Hcc.out, .inr ⟨w.heap.size + 1, n * 16, rfl, by omega, HB.out⟩⟩

end Go.Proofs.YtoagdidkadfekaaGreatDoor

namespace Go.Proofs.YtoagdidkadfekaaGreatDoor
open Go.RowKit

end Go.Proofs.YtoagdidkadfekaaGreatDoor

/- EdU. Conditions: as each theorem states. -/
import Derived.Test.YtgcfkblmnpnogaaGreatDoorPnxEdS
namespace Go.Proofs.YtgcfkblmnpnogaaGreatDoor
open Go.RowKit Go.Lib
theorem sort_one (s : SampV) : sortS [s] = [s] := List.perm_singleton.1 (sortS_perm [s])
theorem checkAll_one {s : SampV} (h : s.check = 0) : checkAllZ [s] = 0 := by
 unfold checkAllZ
 rw [if_neg (by simp), if_neg (by simp [firstBad, h]), if_neg]
 unfold dupZ
 simp [adjTo]
theorem canP_one {size : Nat} {s : SampV} (h1 : 24 ≤ size) (h2 : size ≤ 96) (hsm : s.small) (h : s.check = 0) : CanP size [s] := by
 have h3 := canP_of h1 h2 (ss := [s]) (by simp) (fun x hx => by rw [List.mem_singleton] at hx; rw [hx]; exact hsm) (checkAll_one h)
 rwa [sort_one] at h3
def oneL (size : Nat) (s : SampV) : List RawV := allZ size ([s].map metaOf) (frTo size [s] [s].length) ([s].map metaOf).length
theorem one_raw {size : Nat} {s : SampV} (h : CanP size [s]) : ∃ r, oneL size s = [r] ∧ plainM r.m = plainM (metaOf s) ∧ r.m.name = s.name ∧ RawOk size r ∧ r.fs.length ≤ 20 := by
 have hx := bldDir_get (size := size) (D := [s].map metaOf) (m := 0) (x := metaOf s) rfl
 have h20 := canP_frs h
 have hR := h.can.raws (by simp only [List.length_cons, List.length_nil] at h20 ⊢; omega)
 have he : oneL size s = [⟨plc size ([s].map metaOf) 0 (metaOf s), ((frTo size [s] [s].length).drop (kOf ([s].map metaOf) 0)).take (framesN (plc size ([s].map metaOf) 0 (metaOf s))).toNat⟩] := by
  unfold oneL
  show allZ size ([s].map metaOf) (frTo size [s] [s].length) (0 + 1) = _
  rw [allZ_succ hx]
  rfl
 refine ⟨_, he, rfl, rfl, ?_, ?_⟩
 ·have hm := hR.each
  have he' : allZ size ([s].map metaOf) (frTo size [s] [s].length) ([s].map metaOf).length = _ := he
  rw [he'] at hm
  exact hm _ List.mem_cons_self
 ·show (List.take _ (List.drop _ (frTo size [s] [s].length))).length ≤ 20
  rw [List.length_take, List.length_drop]
  simp only [List.length_cons, List.length_nil] at h20 ⊢
  omega
theorem Pack_one {size : Nat} (h1 : 24 ≤ size) (h2 : size ≤ 96) (p : HSamp × SampV) (hsm : p.2.small) (hck : p.2.check = 0) (A : Option Addr) (cap : Nat) (w : World) (hn : A = none → cap = 0) (hs : SampsAt w w.heap.size A [p]) :
  Calls Tryz.prog 49 #[.int .i64 size, .slice A 1 cap] w fun e w' => ∃ g, e = .returned (.tuple #[.slice (some ⟨g, 0, none⟩) (packLen size [p.2]) (packLen size [p.2]), .int .i64 0]) ∧ w.heap.size ≤ g ∧ BytesAt w' g (packZ size [p.2]) ∧ Below w.heap.size w w' := by
 have hP := Pack_any size [p] A cap w (by simp) hn hs (fun q hq => by rw [List.mem_singleton] at hq; rw [hq]; exact hsm)
 refine Calls.mono hP ?_
 rintro e w' ⟨hb, ⟨hE, _⟩ | ⟨_, sz, g, hsz, hC, hg, hby, he⟩⟩
 ·exfalso
  refine hE ?_
  unfold packE
  rw [if_neg (by omega)]
  exact checkAll_one hck
 ·obtain rfl : sz = size := by omega
  rw [show sortS ([p].map (·.2)) = [p.2] from sort_one p.2] at hby he
  exact ⟨g, he, hg, hby, hb⟩
theorem Parse_one {size : Nat} {s : SampV} (h : CanP size [s]) (g : Nat) (w : World) (hb : BytesAt w g (packZ size [s])) :
  Calls Tryz.prog 19 #[.slice (some ⟨g, 0, none⟩) (packLen size [s]) (packLen size [s])] w fun e w' => ∃ x, e = .returned (.tuple #[.pointer (some ⟨x, 0, none⟩), .int .i64 0]) ∧ BankAt w' x (bldZ size ([s].map metaOf) (frTo size [s] [s].length)) size (bldDir size ([s].map metaOf)) ∧ Below w.heap.size w w' := by
 refine (Parse_packed h g w hb).mono ?_
 rintro e w' ⟨x, he, _, hB, hb⟩
 rw [h.bld_eq, ← bldDir_pack] at hB
 exact ⟨x, he, hB, hb⟩
theorem all_one {size : Nat} {s : SampV} (h : CanP size [s]) {r : RawV} (hr : oneL size s = [r]) (x : Nat) (w : World) (hB : BankAt w x (bldZ size ([s].map metaOf) (frTo size [s] [s].length)) size (bldDir size ([s].map metaOf))) :
  Calls Tryz.prog 89 #[.pointer (some ⟨x, 0, none⟩)] w fun e w' => ∃ vb cx cur p, e = .returned (.slice (some ⟨vb, 0, none⟩) 1 cx) ∧ p.2 = r ∧ RawAt w' p ∧ w'.heap[vb]? = some (.cells cur 149 (0, 0)) ∧ cur.toList.take 10 = rawC p ∧ w.heap.size ≤ vb ∧ Below w.heap.size w w' := by
 refine (all_any h.can x w hB).mono ?_
 rintro e w' ⟨A, c, L, rfl, hmap, hraws, hb⟩
 have hmap : L.map Prod.snd = oneL size s := hmap
 rw [hr] at hmap
 obtain ⟨p, rfl⟩ : ∃ p, L = [p] := by
  have h1 := congrArg List.length hmap
  rw [List.length_map] at h1
  exact List.length_eq_one_iff.1 h1
 have hp : p.2 = r := by simpa using hmap
 have hown := hraws.own
 rcases hown.2 with ⟨_, h0⟩ | ⟨g, cap, cur, hv0, hbg, hg, _, _, _, htk⟩
 ·simp at h0
 ·injection hv0 with e1 _ e3
  subst e1 e3
  have htk : cur.toList.take (1 * 10) = rawC p ++ [] := htk
  rw [List.append_nil] at htk
  exact ⟨g, c, cur, p, rfl, hp, hraws.each p List.mem_cons_self, hg, htk, hbg, hb⟩
def AddP (w : World) (size : Nat) (Z : List RawV) (s : SampV) (e : Ending) (w' : World) : Prop :=
 (s.check ≠ 0 → e = .returned (.tuple #[.slice none 0 0, .int .i64 s.check]) ∧ Below w.heap.size w w') ∧
 (s.check = 0 → atB Z s.name = true → e = .returned (.tuple #[.slice none 0 0, .int .i64 11]) ∧ Below w.heap.size w w') ∧
 (∀ r, oneL size s = [r] → s.check = 0 → atB Z s.name = false → ImageP w size (Z.insertIdx (atZ Z s.name) r) e w')
theorem samps_one {w : World} {g : Nat} {h : HSamp} {s : SampV} {vs : List Value} (hb : Blk w g 92 h.cells) (hf : (h.nm = s.name ∧ h.rate = s.rate ∧ h.lp = s.lp ∧ h.f = s.f ∧ h.t = s.t ∧ h.len = s.rows.length) ∧ s.rows.length ≤ h.cap ∧ h.cap ≤ 9223372036854775807) (hr : Row w w.heap.size h.a vs) (hm : RowsAt w w.heap.size vs s.rows) :
  SampsAt w w.heap.size (some ⟨g, 0, none⟩) [(h, s)] := by
 refine ⟨fun i v hv => ⟨g, 0, rfl, hb.lt, ?_⟩, fun p hp => ?_⟩
 ·have hv : (h.cells ++ [])[i]? = some v := hv
  rw [List.append_nil] at hv
  rw [Nat.zero_add, blk_cells hb]
  exact hv
 ·rw [List.mem_singleton] at hp
  subst hp
  exact ⟨hf.1, hf.2.1, hf.2.2, vs, hr, hm⟩
theorem wp_build_s {P : Program} {o : Oper} {a : Act} {w : World} {K : Act → World → Prop} {Q : Exit → Act → World → Prop} (t e : TypeId) (x : Operand) (ho : o.op = .buildSlice t 1 #[(0, x)])
  (ie : TypeInfo) (z : Value) (s : Nat) (hu : P.underlying t = some (.slice e)) (hie : P.info? e = some ie) (hz : ie.zero = some z) (hs : ie.size = s) (h0 : 0 < s) (hs2 : s ≤ 1000000) (cs : Array Value) (hx : (a.eval x).cells = cs) (hcs : cs.size = s)
  (h : K (a.put o.dst (.slice (some ⟨w.heap.size, 0, none⟩) 1 1)) (w.alloc (.cells cs e))) : o.wp P a w K Q := by
 refine wp_buildSlice t e 1 #[(0, x)] ho cs ie z hu hie hz (by rw [hs]; omega) (by rw [hs]; omega) ?_ h
 rw [hs]
 have := Great.fill_whole (s := s) h0 [a.eval x] ((Array.range (1 * s)).map (z.cells[· % z.cells.size]!)) (fun v hv => by rw [List.mem_singleton] at hv; rw [hv, hx, hcs]) (by simp)
 simpa [hx] using this
end Go.Proofs.YtgcfkblmnpnogaaGreatDoor

/- EdM. Conditions: as each theorem states. -/
import Derived.Test.YtgcfkblmnpnogaaGreatDoorPm46
import Derived.Test.YtgcfkblmnpnogaaGreatDoorPm15
namespace Go.Proofs.YtgcfkblmnpnogaaGreatDoor
open Go.RowKit Go.Lib
theorem putAt_takeK {l : List Value} {off k : Nat} {ys : List Value} (h : off + ys.length ≤ k) (hk : k ≤ l.length) : (putAt l off ys).take k = putAt (l.take k) off ys := by
 refine List.ext_getElem? fun i => ?_
 have hl : (l.take k).length = k := by rw [List.length_take]; omega
 rw [List.getElem?_take, putAt_get (by omega), putAt_get (by omega), List.getElem?_take]
 by_cases h1 : i < k
 ·rw [if_pos h1, if_pos h1]
 ·rw [if_neg h1, if_neg (by omega), if_neg h1]
theorem own_put {w : World} {base size n cap g : Nat} {e : TypeId} {xs : List Value} (h : w.ownsRow base e size (.slice (some ⟨g, 0, none⟩) n cap) n xs) :
  ∃ old : List Value, w.heap[g]? = some (.cells old.toArray e (0, 0)) ∧ n * size ≤ old.length ∧ ∀ off ys, off + ys.length ≤ n * size → (w.setRow g (putAt old off ys).toArray).ownsRow base e size (.slice (some ⟨g, 0, none⟩) n cap) n (putAt xs off ys) ∧ w.grownBy (w.setRow g (putAt old off ys).toArray) (some g) := by
 have hxl := h.1
 rcases h.2 with ⟨h', _⟩ | ⟨g', cap', cur, h', hb, hg, hnc, hcm, hcs, htake⟩
 ·simp at h'
 ·simp only [Value.slice.injEq, Option.some.injEq, Addr.mk.injEq, and_true, true_and] at h'
  obtain ⟨rfl, rfl⟩ := h'
  have hnl : n * size ≤ cur.toList.length := by
   rw [Array.length_toList, hcs]
   exact Nat.mul_le_mul_right _ hnc
  refine ⟨cur.toList, by rw [Array.toArray_toList]; exact hg, hnl, fun off ys ho => ⟨⟨?_, .inr ⟨g, cap, (putAt cur.toList off ys).toArray, rfl, hb, setRow_at w g e cur _ hg, hnc, hcm, ?_, ?_⟩⟩, grown_row2 (World.grownBy.refl _ _) _⟩⟩
  ·rw [putAt_len (by rw [hxl]; exact ho), hxl]
  ·rw [List.size_toArray, putAt_len (by omega), Array.length_toList, hcs]
  ·rw [List.toList_toArray, putAt_takeK ho hnl, htake]
theorem rawsC_put (L : List (HRaw × RawV)) {i : Nat} {p : HRaw × RawV} (hp : L[i]? = some p) (m' : MetaV) : putAt (rawsC L) (i * 10) m'.cells = rawsC (L.set i (p.1, ⟨m', p.2.fs⟩)) := by
 have hi := (List.getElem?_eq_some_iff.1 hp).1
 have hd : L.drop i = p :: L.drop (i + 1) := by
  rw [List.drop_eq_getElem_cons hi]
  congr 1
  exact (List.getElem?_eq_some_iff.1 hp).2
 have h9 : m'.cells.length = 9 := rfl
 unfold putAt
 rw [List.set_eq_take_append_cons_drop, if_pos hi, rawsC_app, rawsC_take, h9, ← List.drop_drop, rawsC_drop, hd, List.append_assoc]
 congr 1
theorem set_map {α β : Type} (f : α → β) {Z : List α} {i : Nat} {r r' : α} (hr : Z[i]? = some r) (h : f r' = f r) : (Z.set i r').map f = Z.map f := by
 refine List.ext_getElem? fun j => ?_
 rw [List.getElem?_map, List.getElem?_map, List.getElem?_set]
 by_cases hj : i = j
 ·subst hj
  rw [if_pos rfl, if_pos (List.getElem?_eq_some_iff.1 hr).1, hr]
  exact congrArg some h
 ·rw [if_neg hj]
theorem asc_names (Z : List RawV) : AscZ Z ↔ (Z.map (·.m.name)).Pairwise fun x y => nameLt x y = true := by
 unfold AscZ
 exact (List.pairwise_map (f := fun r : RawV => r.m.name) (R := fun x y => nameLt x y = true)).symm
theorem RawsOk.set {size : Nat} {Z : List RawV} (h : RawsOk size Z) {i : Nat} {r : RawV} (hr : Z[i]? = some r) {m' : MetaV} (h1 : m'.right = true) (h2 : m'.name = r.m.name) (h3 : framesN m' = framesN r.m) : RawsOk size (Z.set i ⟨m', r.fs⟩) := by
 have hrz := h.each r (List.mem_of_getElem? hr)
 refine ⟨h.lo, h.hi, by rw [List.length_set]; exact h.many, fun q hq => ?_, ?_, ?_⟩
 ·rcases List.mem_or_eq_of_mem_set hq with hq | rfl
  ·exact h.each q hq
  ·exact ⟨h1, by rw [h3]; exact hrz.cnt, hrz.len, hrz.byt⟩
 ·rw [asc_names, set_map (fun q : RawV => q.m.name) hr (r' := ⟨m', r.fs⟩) h2, ← asc_names]
  exact h.asc
 ·unfold fOf
  rw [set_map (fun q : RawV => q.fs) hr (r' := ⟨m', r.fs⟩) rfl]
  exact h.few
def loopM (m : MetaV) (a b : Int) : MetaV := { m with loop := !decide (a = b), from_ := if a = b then 0 else a, to_ := if a = b then 0 else b }
def LoopP (w : World) (size : Nat) (Z : List RawV) (name : ByteArray) (a b : Int) (e : Ending) (w' : World) : Prop :=
 (atB Z name = false → e = .returned (.tuple #[.slice none 0 0, .int .i64 7]) ∧ Below w.heap.size w w') ∧
 (∀ r : RawV, atB Z name = true → Z[atZ Z name]? = some r →
  if (loopM r.m a b).right = true then ImageP w size (Z.set (atZ Z name) ⟨loopM r.m a b, r.fs⟩) e w' else e = .returned (.tuple #[.slice none 0 0, .int .i64 13]) ∧ Below w.heap.size w w')
set_option maxRecDepth 100000 in
set_option maxHeartbeats 16000000 in
theorem Loop_any {size : Nat} {D : List MetaV} {FR : List (List Nat)} (hC : CanB size D FR) (hFR : FR.length ≤ 30000) (g : Nat) (name : ByteArray) (from_ to_ : Int) (w : World) (hB : BankAt w g (bldZ size D FR) size (bldDir size D)) :
  Calls Tryz.prog 47 #[.pointer (some ⟨g, 0, none⟩), .string name, .int .i64 from_, .int .i64 to_] w (LoopP w size (allZ size D FR D.length) name from_ to_) := by
 have HSz := Lib.hid (fun W (hW : Below w.heap.size w W) => BSize_any (hB.later hW) (by have := hC.lo; omega))
 have HAl := Lib.hid (all_any hC g w hB)
 have hlo := hC.lo
 have hzl := allZ_len size D FR D.length (Nat.le_refl _)
 have hmany := hC.many
 have HRs := Lib.hid (hC.raws hFR)
 have HAt := Lib.hid (fun L A c (nm : ByteArray) W (hL : List.length L ≤ 1000) hr => at_any L A c nm W hL hr)
 have HLt := Lib.hid (fun (h : atB (allZ size D FR D.length) name = true) => at_of h)
 have HMf := Lib.hid (show (Tryz.prog.info? 27).map (·.size) = some 9 by kernel_rfl)
 generalize allZ size D FR D.length = Z at *
 obtain ⟨n, hn⟩ : ∃ n, D.length = n := ⟨_, rfl⟩
 rw [hn] at hzl hmany
 obtain ⟨i, hie⟩ : ∃ i, atZ Z name = i := ⟨_, rfl⟩
 rw [hie] at HLt
 have Hie := Lib.hid hie
 have Hzl := Lib.hid hzl
 have t0 : ((size : Int) == 0) = false := beq_eq_false_iff_ne.2 (by omega)
 clear hB hC hFR hn hie
 go_enter Tryz.func47, Tryz.ntmps47
 go_wp2_with (first | (go_at_call 51; refine (HSz.out _ (Below.refl _ _)).mono ?_; rintro e w2 ⟨rfl, rfl⟩) | (go_at_call 89; fail))
 refine HAl.out.mono ?_
 rintro e w1 ⟨A, c, L, rfl, hmap, hraws, hb1⟩
 have hLl : L.length = n := by rw [← hzl, ← hmap, List.length_map]
 have B1 := Lib.hid hb1
 have HR := Lib.hid hraws
 have HA1 := Lib.hid (HAt.out L A c name w1 (by omega) (Row.of_own hraws.own))
 rw [hmap, Hie.out] at HA1
 have Hmap := Lib.hid hmap
 have HLl := Lib.hid hLl
 rw [hLl] at HA1 ⊢
 clear hraws hb1 hmap HAl hLl
 go_wp2_with (go_at_call 90; fail)
 refine HA1.out.mono ?_
 rintro e w2 ⟨rfl, hb2⟩
 have E2 := Lib.hid (bnext B1.out hb2)
 have B2 := Lib.hid hb2
 clear hb2 HA1
 cases hat : atB Z name with
 | false =>
  go_wp2_with (go_at_call 51; fail)
  refine bodyPost_ret (results_tmp2 Tryz.results47 _ _ _) rfl ?_
  exact ⟨fun _ => ⟨rfl, E2.out⟩, fun r hb => by rw [hat] at hb; cases hb⟩
 | true =>
  obtain ⟨r, hr, -⟩ := HLt.out hat
  have HrZ := Lib.hid (show Z[atZ Z name]? = some r by rw [Hie.out]; exact hr)
  have hin := (List.getElem?_eq_some_iff.1 hr).1
  rw [hzl] at hin
  have u1 : (i : Int) < (n : Int) := by omega
  have u2 : (0 : Int) ≤ (i : Int) := by omega
  obtain ⟨p, hp⟩ : ∃ p, L[i]? = some p := ⟨_, List.getElem?_eq_getElem (by rw [HLl.out]; exact hin)⟩
  have hpz : p.2 = r := by
   have h1 : (L.map Prod.snd)[i]? = some p.2 := by rw [List.getElem?_map, hp]; rfl
   rw [Hmap.out, hr] at h1
   exact (Option.some.inj h1).symm
  have hown := HR.out.own
  rw [HLl.out] at hown
  obtain ⟨b, hAb, hbge⟩ : ∃ b, A = some ⟨b, 0, none⟩ ∧ w.heap.size ≤ b := by
   rcases hown.2 with ⟨_, h⟩ | ⟨b, _, _, h, hb, _⟩
   ·omega
   ·injection h with h
    exact ⟨b, h, hb⟩
  subst hAb
  obtain ⟨b', off, hAb, hbl, hcl⟩ := raw_at (Row.of_own HR.out.own) hp
  injection hAb with hAb
  injection hAb with hAb hoff
  subst hAb hoff
  have HX2 := Lib.hid (fun j v (hv : (rawC p)[j]? = some v) => (show w2.cell? ⟨b, i * 10 + j, none⟩ = some v from by
   have h := hcl j v hv
   rw [Nat.zero_add] at h
   exact (B2.out.cell (p := ⟨b, i * 10 + j, none⟩) hbl).trans h))
  have HOw2 := Lib.hid (own_below hown B2.out)
  have HSet := Lib.hid (fun (m' : MetaV) (_ : m'.name = r.m.name) (_ : m'.length = r.m.length) (_ : m'.channels = r.m.channels) => (show ∀ W W' : World, Below w.heap.size w W → Below w2.heap.size w2 W → W'.ownsRow w.heap.size 149 10 (.slice (some ⟨b, 0, none⟩) n c) n (putAt (rawsC L) (i * 10) m'.cells) → W.grownBy W' (some b) → RawsAt W' w.heap.size (some ⟨b, 0, none⟩) c (L.set i (p.1, ⟨m', r.fs⟩)) from fun W W' hW hW2 ho hg => by
   rw [rawsC_put L hp, hpz] at ho
   have hk : W.ownsRow w.heap.size 149 10 (.slice (some ⟨b, 0, none⟩) n c) n (rawsC L) := own_below HOw2.out hW2
   have hfar := fun (q : HRaw × RawV) (h : RawAt w1 q) => ((h.below B2.out).below hW2).far hk (by decide) (by decide) hg
   refine ⟨by rw [List.length_set, HLl.out]; exact ho, fun q hq => ?_⟩
   rcases List.mem_or_eq_of_mem_set hq with hq | rfl
   ·exact hfar q (HR.out.each q hq)
   ·obtain ⟨vs, hv⟩ := hfar p (HR.out.each p (List.mem_of_getElem? hp))
    rw [hpz] at hv
    exact ⟨vs, hv⟩))
  have HImg := Lib.hid (fun (m' : MetaV) (h2 : m'.name = r.m.name) (h3 : m'.length = r.m.length) (h4 : m'.channels = r.m.channels) => (show m'.right = true → ∀ W, RawsAt W w.heap.size (some ⟨b, 0, none⟩) c (L.set i (p.1, ⟨m', r.fs⟩)) → Calls Tryz.prog 92 #[.int .i64 size, .slice (some ⟨b, 0, none⟩) n c] W (ImageP W size (Z.set i ⟨m', r.fs⟩)) from fun h1 W hW => by
   have hmp : (L.set i (p.1, ⟨m', r.fs⟩)).map Prod.snd = Z.set i ⟨m', r.fs⟩ := by rw [List.map_set, Hmap.out]
   have hfn : framesN m' = framesN r.m := by unfold framesN; rw [h3, h4]
   have h := build_ok size (L.set i (p.1, ⟨m', r.fs⟩)) (some ⟨b, 0, none⟩) c w.heap.size W (by rw [hmp]; exact HRs.out.set hr h1 h2 hfn) hW
   rw [hmp, List.length_set, HLl.out] at h
   exact h))
  have hpx : rawC p = r.m.cells ++ [.slice p.1.a r.fs.length p.1.c] := by rw [← hpz]; rfl
  have HX2 := Lib.hid (fun j v (hv : r.m.cells[j]? = some v) => HX2.out j v (by rw [hpx, List.getElem?_append_left (List.getElem?_eq_some_iff.1 hv).1]; exact hv))
  obtain ⟨⟨nm, len, rate, ch, lp, f, t, s0, f0⟩, fs⟩ := r
  simp only [MetaV.cells] at HX2 HSet
  clear hr hp hpz hpx hown hbl hcl
  by_cases hft : from_ = to_
  ·have v2 : (from_ != to_) = false := by simp [hft]
   have Hft := Lib.hid hft
   clear hft
   have HLM := Lib.hid (show loopM ⟨nm, len, rate, ch, lp, f, t, s0, f0⟩ from_ to_ = ⟨nm, len, rate, ch, false, 0, 0, s0, f0⟩ from by unfold loopM; simp [Hft.out])
   have HRm := Lib.hid (fun W => RightMeta_any nm len rate ch false 0 0 s0 f0 W)
   rw [← HLM.out] at HRm
   have HSt := Lib.hid (HSet.out (loopM ⟨nm, len, rate, ch, lp, f, t, s0, f0⟩ from_ to_) (by unfold loopM; rfl) (by unfold loopM; rfl) (by unfold loopM; rfl))
   rw [HLM.out] at HSt
   obtain ⟨ok, hok⟩ : ∃ ok, (loopM ⟨nm, len, rate, ch, lp, f, t, s0, f0⟩ from_ to_).right = ok := ⟨_, rfl⟩
   rw [hok] at HRm
   have Hok := Lib.hid hok
   have HImg := Lib.hid (HImg.out (loopM ⟨nm, len, rate, ch, lp, f, t, s0, f0⟩ from_ to_) (by unfold loopM; rfl) (by unfold loopM; rfl) (by unfold loopM; rfl))
   rw [HLM.out] at HImg
   clear hok
   go_wp2_with (refine wpList_load_part_w rfl 27 (.tmp 30) rfl b (i * 10) rfl [.string nm, .int .i64 len, .int .i64 rate, .int .i64 ch, .bool lp, .int .i64 f, .int .i64 t, .int .i64 s0, .int .i64 f0] _ HX2.out Tryz.underlying27 rfl HMf.out ?_)
   obtain ⟨w3, hw3⟩ : ∃ w3, w2.alloc (.cells #[.string nm, .int .i64 len, .int .i64 rate, .int .i64 ch, .bool false, .int .i64 0, .int .i64 0, .int .i64 s0, .int .i64 f0] 27) = w3 := ⟨_, rfl⟩
   have X3 := Lib.hid (show w3.heap[w2.heap.size]? = some (.cells #[.string nm, .int .i64 len, .int .i64 rate, .int .i64 ch, .bool false, .int .i64 0, .int .i64 0, .int .i64 s0, .int .i64 f0] 27 (0, 0)) by rw [← hw3]; exact heap_alloc_new w2 _)
   have B3 := Lib.hid (show Below w2.heap.size w2 w3 by rw [← hw3]; exact bnew w2 _)
   rw [hw3]
   clear hw3
   refine (HRm.out _).mono ?_
   rintro e w4 ⟨rfl, hb4⟩
   have B4 := Lib.hid (bnext B3.out hb4)
   have X4 := Lib.hid (hkeep X3.out hb4)
   clear hb4 HRm X3 B3
   cases ok with
   | false =>
    go_wp2
    refine bodyPost_ret (results_tmp2 Tryz.results47 _ _ _) rfl ?_
    exact ⟨fun h => (by rw [hat] at h; cases h), fun r _ hr => by
     rw [HrZ.out] at hr
     injection hr with hr
     subst hr
     rw [if_neg (by rw [Hok.out]; exact Bool.false_ne_true)]
     exact ⟨rfl, bnext E2.out B4.out⟩⟩
   | true =>
    obtain ⟨old, ho1, ho2, ho3⟩ := own_put (own_below HOw2.out B4.out)
    have HFz := Lib.hid (show (Tryz.prog.info? 27).map (·.size) = some ([.string nm, .int .i64 len, .int .i64 rate, .int .i64 ch, .bool false, .int .i64 0, .int .i64 0, .int .i64 s0, .int .i64 f0] : List Value).length by kernel_rfl)
    have Ho3 := Lib.hid (ho3 (i * 10) [.string nm, .int .i64 len, .int .i64 rate, .int .i64 ch, .bool false, .int .i64 0, .int .i64 0, .int .i64 s0, .int .i64 f0] (by show i * 10 + 9 ≤ n * 10; omega))
    have Ho2 := Lib.hid (show i * 10 + ([.string nm, .int .i64 len, .int .i64 rate, .int .i64 ch, .bool false, .int .i64 0, .int .i64 0, .int .i64 s0, .int .i64 f0] : List Value).length ≤ old.length by show i * 10 + 9 ≤ _; omega)
    have H1c := Lib.hid (show ∀ v ∈ ([.string nm, .int .i64 len, .int .i64 rate, .int .i64 ch, .bool false, .int .i64 0, .int .i64 0, .int .i64 s0, .int .i64 f0] : List Value), v.oneCell' = true from fun v hv => meta_one ⟨nm, len, rate, ch, false, 0, 0, s0, f0⟩ v hv)
    have Ho1 := Lib.hid ho1
    obtain ⟨w5, hw5⟩ : ∃ w5, w4.setRow b (putAt old (i * 10) [.string nm, .int .i64 len, .int .i64 rate, .int .i64 ch, .bool false, .int .i64 0, .int .i64 0, .int .i64 s0, .int .i64 f0]).toArray = w5 := ⟨_, rfl⟩
    have Hw5 := Lib.hid hw5
    rw [hw5] at Ho3
    have RW5 := Lib.hid (HSt.out w4 w5 (bnext E2.out B4.out) B4.out Ho3.out.1 Ho3.out.2)
    have E5 := Lib.hid (show Below w.heap.size w w5 from ((bnext E2.out B4.out)).grown Ho3.out.2 (by have := E2.out.size; have := B4.out.size; omega) (fun k hk => by injection hk with hk; rw [← hk]; exact hbge))
    have HB5 := Lib.hid (HImg.out (by rw [← HLM.out]; exact Hok.out) w5 RW5.out)
    clear ho1 ho2 ho3 hw5
    go_wp2_with (first | (refine wpList_load_row_w rfl 27 (.tmp 13) rfl w2.heap.size rfl _ #[.string nm, .int .i64 len, .int .i64 rate, .int .i64 ch, .bool false, .int .i64 0, .int .i64 0, .int .i64 s0, .int .i64 f0] _ _ X4.out Tryz.underlying27 rfl HMf.out ?_) | (refine wpList_store_part_w rfl 27 (.tmp 52) (.tmp 50) rfl b (i * 10) rfl 149 old [.string nm, .int .i64 len, .int .i64 rate, .int .i64 ch, .bool false, .int .i64 0, .int .i64 0, .int .i64 s0, .int .i64 f0] rfl Ho1.out HFz.out Ho2.out H1c.out ?_; rw [Hw5.out]) | (go_at_call 51; refine (HSz.out _ E5.out).mono ?_; rintro e w' ⟨rfl, rfl⟩) | (go_at_call 92; fail))
    refine HB5.out.mono ?_
    rintro e w6 hI
    have HI := Lib.hid (ImageP.later E5.out hI)
    obtain ⟨_, g4, rfl, _, _, _⟩ := hI
    clear HB5
    go_wp2
    refine bodyPost_ret (results_tmp2 Tryz.results47 _ _ _) rfl ?_
    exact ⟨fun h => (by rw [hat] at h; cases h), fun r _ hr => by
     rw [HrZ.out] at hr
     injection hr with hr
     subst hr
     rw [if_pos Hok.out, HLM.out, Hie.out]
     exact HI.out⟩
  ·have v2 : (from_ != to_) = true := by simp [hft]
   have Hft := Lib.hid hft
   clear hft
   have HLM := Lib.hid (show loopM ⟨nm, len, rate, ch, lp, f, t, s0, f0⟩ from_ to_ = ⟨nm, len, rate, ch, true, from_, to_, s0, f0⟩ from by unfold loopM; simp [Hft.out])
   have HRm := Lib.hid (fun W => RightMeta_any nm len rate ch true from_ to_ s0 f0 W)
   rw [← HLM.out] at HRm
   have HSt := Lib.hid (HSet.out (loopM ⟨nm, len, rate, ch, lp, f, t, s0, f0⟩ from_ to_) (by unfold loopM; rfl) (by unfold loopM; rfl) (by unfold loopM; rfl))
   rw [HLM.out] at HSt
   obtain ⟨ok, hok⟩ : ∃ ok, (loopM ⟨nm, len, rate, ch, lp, f, t, s0, f0⟩ from_ to_).right = ok := ⟨_, rfl⟩
   rw [hok] at HRm
   have Hok := Lib.hid hok
   have HImg := Lib.hid (HImg.out (loopM ⟨nm, len, rate, ch, lp, f, t, s0, f0⟩ from_ to_) (by unfold loopM; rfl) (by unfold loopM; rfl) (by unfold loopM; rfl))
   rw [HLM.out] at HImg
   clear hok
   go_wp2_with (refine wpList_load_part_w rfl 27 (.tmp 30) rfl b (i * 10) rfl [.string nm, .int .i64 len, .int .i64 rate, .int .i64 ch, .bool lp, .int .i64 f, .int .i64 t, .int .i64 s0, .int .i64 f0] _ HX2.out Tryz.underlying27 rfl HMf.out ?_)
   obtain ⟨w3, hw3⟩ : ∃ w3, w2.alloc (.cells #[.string nm, .int .i64 len, .int .i64 rate, .int .i64 ch, .bool true, .int .i64 from_, .int .i64 to_, .int .i64 s0, .int .i64 f0] 27) = w3 := ⟨_, rfl⟩
   have X3 := Lib.hid (show w3.heap[w2.heap.size]? = some (.cells #[.string nm, .int .i64 len, .int .i64 rate, .int .i64 ch, .bool true, .int .i64 from_, .int .i64 to_, .int .i64 s0, .int .i64 f0] 27 (0, 0)) by rw [← hw3]; exact heap_alloc_new w2 _)
   have B3 := Lib.hid (show Below w2.heap.size w2 w3 by rw [← hw3]; exact bnew w2 _)
   rw [hw3]
   clear hw3
   refine (HRm.out _).mono ?_
   rintro e w4 ⟨rfl, hb4⟩
   have B4 := Lib.hid (bnext B3.out hb4)
   have X4 := Lib.hid (hkeep X3.out hb4)
   clear hb4 HRm X3 B3
   cases ok with
   | false =>
    go_wp2
    refine bodyPost_ret (results_tmp2 Tryz.results47 _ _ _) rfl ?_
    exact ⟨fun h => (by rw [hat] at h; cases h), fun r _ hr => by
     rw [HrZ.out] at hr
     injection hr with hr
     subst hr
     rw [if_neg (by rw [Hok.out]; exact Bool.false_ne_true)]
     exact ⟨rfl, bnext E2.out B4.out⟩⟩
   | true =>
    obtain ⟨old, ho1, ho2, ho3⟩ := own_put (own_below HOw2.out B4.out)
    have HFz := Lib.hid (show (Tryz.prog.info? 27).map (·.size) = some ([.string nm, .int .i64 len, .int .i64 rate, .int .i64 ch, .bool true, .int .i64 from_, .int .i64 to_, .int .i64 s0, .int .i64 f0] : List Value).length by kernel_rfl)
    have Ho3 := Lib.hid (ho3 (i * 10) [.string nm, .int .i64 len, .int .i64 rate, .int .i64 ch, .bool true, .int .i64 from_, .int .i64 to_, .int .i64 s0, .int .i64 f0] (by show i * 10 + 9 ≤ n * 10; omega))
    have Ho2 := Lib.hid (show i * 10 + ([.string nm, .int .i64 len, .int .i64 rate, .int .i64 ch, .bool true, .int .i64 from_, .int .i64 to_, .int .i64 s0, .int .i64 f0] : List Value).length ≤ old.length by show i * 10 + 9 ≤ _; omega)
    have H1c := Lib.hid (show ∀ v ∈ ([.string nm, .int .i64 len, .int .i64 rate, .int .i64 ch, .bool true, .int .i64 from_, .int .i64 to_, .int .i64 s0, .int .i64 f0] : List Value), v.oneCell' = true from fun v hv => meta_one ⟨nm, len, rate, ch, true, from_, to_, s0, f0⟩ v hv)
    have Ho1 := Lib.hid ho1
    obtain ⟨w5, hw5⟩ : ∃ w5, w4.setRow b (putAt old (i * 10) [.string nm, .int .i64 len, .int .i64 rate, .int .i64 ch, .bool true, .int .i64 from_, .int .i64 to_, .int .i64 s0, .int .i64 f0]).toArray = w5 := ⟨_, rfl⟩
    have Hw5 := Lib.hid hw5
    rw [hw5] at Ho3
    have RW5 := Lib.hid (HSt.out w4 w5 (bnext E2.out B4.out) B4.out Ho3.out.1 Ho3.out.2)
    have E5 := Lib.hid (show Below w.heap.size w w5 from ((bnext E2.out B4.out)).grown Ho3.out.2 (by have := E2.out.size; have := B4.out.size; omega) (fun k hk => by injection hk with hk; rw [← hk]; exact hbge))
    have HB5 := Lib.hid (HImg.out (by rw [← HLM.out]; exact Hok.out) w5 RW5.out)
    clear ho1 ho2 ho3 hw5
    go_wp2_with (first | (refine wpList_load_row_w rfl 27 (.tmp 13) rfl w2.heap.size rfl _ #[.string nm, .int .i64 len, .int .i64 rate, .int .i64 ch, .bool true, .int .i64 from_, .int .i64 to_, .int .i64 s0, .int .i64 f0] _ _ X4.out Tryz.underlying27 rfl HMf.out ?_) | (refine wpList_store_part_w rfl 27 (.tmp 52) (.tmp 50) rfl b (i * 10) rfl 149 old [.string nm, .int .i64 len, .int .i64 rate, .int .i64 ch, .bool true, .int .i64 from_, .int .i64 to_, .int .i64 s0, .int .i64 f0] rfl Ho1.out HFz.out Ho2.out H1c.out ?_; rw [Hw5.out]) | (go_at_call 51; refine (HSz.out _ E5.out).mono ?_; rintro e w' ⟨rfl, rfl⟩) | (go_at_call 92; fail))
    refine HB5.out.mono ?_
    rintro e w6 hI
    have HI := Lib.hid (ImageP.later E5.out hI)
    obtain ⟨_, g4, rfl, _, _, _⟩ := hI
    clear HB5
    go_wp2
    refine bodyPost_ret (results_tmp2 Tryz.results47 _ _ _) rfl ?_
    exact ⟨fun h => (by rw [hat] at h; cases h), fun r _ hr => by
     rw [HrZ.out] at hr
     injection hr with hr
     subst hr
     rw [if_pos Hok.out, HLM.out, Hie.out]
     exact HI.out⟩
end Go.Proofs.YtgcfkblmnpnogaaGreatDoor

/- QuotaD. Conditions: as each theorem states. -/
import Derived.Great.BuildSlice
import Derived.Deep.LoopGhost
import Derived.WalkMore
import Derived.Test.YtbgkoopfdfnmcaaQc08
import Derived.Test.YtbgkoopfdfnmcaaQc27
import Derived.Test.YtbgkoopfdfnmcaaQc43

namespace Go.Proofs.Ytbgkoopfdfnmcaa
open Go.RowKit

section
variable {P : Program}
/-- a slice of one element that is written whole -/
theorem wpList_build_1 {ops : Array Oper} {rest : List Oper} {o : Oper} {a : Act} {w : World} {Q : Exit → Act → World → Prop} (hg : o.guard = none) (t e : TypeId) (x : Operand) (ho : o.op = .buildSlice t 1 #[(0, x)])
    (ie : TypeInfo) (z : Value) (s : Nat) (hu : P.underlying t = some (.slice e)) (hie : P.info? e = some ie) (hz : ie.zero = some z) (hs : ie.size = s) (h0 : 0 < s) (hs2 : s ≤ 1000000) (cs : Array Value) (hx : (a.eval x).cells = cs) (hcs : cs.size = s)
    (h : wpList P ops Q rest (a.put o.dst (.slice (some ⟨w.heap.size, 0, none⟩) 1 1)) (w.alloc (.cells cs e))) : wpList P ops Q (o :: rest) a w := by
  refine wpList_buildSlice hg t e 1 #[(0, x)] ho cs ie z hu hie hz (by rw [hs]; omega) (by rw [hs]; omega) ?_ h
  rw [hs]
  have := Great.fill_whole (s := s) h0 [a.eval x] ((Array.range (1 * s)).map (z.cells[· % z.cells.size]!)) (fun v hv => by rw [List.mem_singleton] at hv; rw [hv, hx, hcs]) (by simp)
  simpa [hx] using this
end
/-- rows of samples handed back -/
def PartsPost (W : World) (Z : List (List SP)) (e : Ending) (w' : World) : Prop :=
  ∃ A c R, e = .returned (.slice A (List.length R) c) ∧ List.map Prod.snd R = Z ∧ Row w' w'.heap.size A (R.map rowV) ∧ (∀ p ∈ R, RStands w' none p) ∧ Below W.heap.size W w'
theorem RStands.free {w : World} {row : Option Nat} {p : RowA × List SP} (h : RStands w row p) : RStands w none p := by
  obtain ⟨h1, h2, g, h3, _, h5, h6⟩ := h
  exact ⟨h1, h2, g, h3, by simp, h5, h6⟩
theorem samp_cells_len (p : SP) : p.1.cells.length = 6 := rfl
theorem samp_cells_one (p : SP) : ∀ v ∈ p.1.cells, v.oneCell' = true := by
  intro v hv
  unfold HSamp.cells at hv
  simp only [List.mem_cons, List.not_mem_nil, or_false] at hv
  rcases hv with rfl | rfl | rfl | rfl | rfl | rfl <;> rfl
theorem samp_info : ∃ i, Try.prog.info? 51 = some i ∧ (∃ z, i.zero = some z ∧ z.cells.size = 6) ∧ i.size = 6 ∧ i.bytes = 72 := by
  have h := inf_samp
  cases hi : Try.prog.info? 51 with
  | none => rw [hi] at h; cases h
  | some i =>
    rw [hi] at h
    simp only [Option.map_some, Option.some.injEq, Prod.mk.injEq] at h
    exact ⟨i, rfl, ⟨_, h.1, rfl⟩, h.2.1, h.2.2⟩
theorem inf_row : (Try.prog.info? 48).map (fun i => (i.zero, i.size, i.bytes)) = some (some (.slice none 0 0), 1, 24) := by kernel_rfl
theorem own_start {w : World} {base : Nat} {e : TypeId} {size n c : Nat} {A : Option Addr} {xs : List Value} (h : w.ownsRow base e size (.slice A n c) n xs) (hn : 0 < n) : ∃ g, A = some ⟨g, 0, none⟩ ∧ base ≤ g ∧ g < w.heap.size := by
  rcases h.2 with ⟨_, h0⟩ | ⟨g, cap, cur, hv, hb, hh, _⟩
  · omega
  · injection hv with h1
    exact ⟨g, h1, hb, hlt hh⟩
theorem own_val {w : World} {base : Nat} {e : TypeId} {size n : Nat} {v : Value} {xs : List Value} (h : w.ownsRow base e size v n xs) (hn : 0 < n) : ∃ g c, v = .slice (some ⟨g, 0, none⟩) n c ∧ base ≤ g ∧ g < w.heap.size ∧ n ≤ c ∧ c ≤ 9223372036854775807 := by
  rcases h.2 with ⟨_, h0⟩ | ⟨g, cap, cur, hv, hb, hh, hnc, hm, _⟩
  · omega
  · exact ⟨g, cap, hv, hb, hlt hh, hnc, by simpa only [maxLen] using hm⟩
theorem grown_below0 {w w' : World} (h : w.grownBy w' none) : Below w.heap.size w w' := (Below.refl _ _).grown h (Nat.le_refl _) (fun _ hk => by cases hk)
theorem samp_one6 (nm : ByteArray) (rate : Int) (lp : Bool) (f t : Int) (a : Option Addr) (l c : Nat) : ∀ u ∈ [Value.string nm, .int .i64 rate, .bool lp, .int .i64 f, .int .i64 t, .slice a l c], u.oneCell' = true := by
  intro v hv
  simp only [List.mem_cons, List.not_mem_nil, or_false] at hv
  rcases hv with rfl | rfl | rfl | rfl | rfl | rfl <;> rfl
theorem own_row_lt' {w : World} {base : Nat} {e : TypeId} {size n : Nat} {v : Value} {xs : List Value} (h : w.ownsRow base e size v n xs) : ∀ k, v.ownBlock = some k → k < w.heap.size := own_block_lt h
theorem headCells_len : ∀ (l : List SP), (headCells l).length = l.length * 6
  | [] => rfl
  | x :: r => by
    have := headCells_len r
    unfold headCells at *
    rw [List.map_cons, List.flatten_cons, List.length_append, this, List.length_cons, Nat.succ_mul, samp_cells_len]; omega
theorem below_drew (w : World) : Below w.heap.size w w.drew := (Below.refl _ _).drew

set_option maxRecDepth 100000 in
set_option maxHeartbeats 16000000 in
theorem Parts_any (size room : Int) (L : List SP) (A : Option Addr) (cap : Nat) (w : World) (hl : L.length ≤ 18) (hs : SampsAt w w.heap.size A L) :
    Calls Try.prog 22 #[.int .i64 size, .int .i64 room, .slice A L.length cap] w (PartsPost w (partsTo (fun r => goodB room (r.map (·.2)) size) L L.length)) := by
  obtain ⟨good, hgood⟩ : ∃ good : List SP → Bool, (fun r => goodB room (r.map (·.2)) size) = good := ⟨_, rfl⟩
  have HGd := Lib.hid (fun r => (show good r = (decide (0 < imageZ size (r.map (·.2))) && decide (imageZ size (r.map (·.2)) ≤ room)) by rw [← hgood]; rfl))
  rw [hgood]
  have HFit := Lib.hid (fun W (hW : Below w.heap.size w W) (s : SP) (h : s ∈ L) => (show s.1.fits W W.heap.size s.2 from ((hs.fits s h).below hW).more hW.size))
  have HIm := Lib.hid (fun (M : List SP) (g c : Nat) W (h1 : M.length ≤ 19) (h2 : SampsAt W W.heap.size (some ⟨g, 0, none⟩) M) => Image_any size M (some ⟨g, 0, none⟩) c W h1 nofun h2)
  have HIb := Lib.hid (fun (M : List SP) (h1 : M.length ≤ 19) => imageZ_bd size (M.map (·.2)) (by rw [List.length_map]; exact h1))
  have HIn := Lib.hid (partsTo_in good L)
  have HSu := Lib.hid (fun m p (h : L[m]? = some p) => partsTo_succ (good := good) h)
  have HSa := Lib.hid (fun m p (h : L[m]? = some p) => samp_at hs.row h)
  obtain ⟨n, hln⟩ : ∃ n, L.length = n := ⟨_, rfl⟩
  have HLn := Lib.hid hln
  rw [hln] at hl ⊢
  obtain ⟨i0, hi, ⟨z0, hz0, hz0s⟩, hi1, hi2⟩ := samp_info
  obtain ⟨iR, hiR, hzR0, hzR1, hzR2⟩ := info_parts inf_row
  clear hgood hs hln
  go_enter Try.func22, Try.ntmps22
  go_wp2
  go_step3
  go_wp2
  go_step3
  go_wp2
  go_loopg [7, 16] n (fun g o i wr => ∃ (m k : Nat) (R : List (RowA × List SP)) (A' : Option Addr) (cc : Nat), m + g = n ∧ i = .int .i64 m ∧ R.length = k ∧ o = .slice A' k cc ∧ wr.ownsRow w.heap.size 48 1 (.slice A' k cc) k (R.map rowV) ∧ (∀ p ∈ R, RStands wr (Value.slice A' k cc).ownBlock p) ∧ R.map Prod.snd = partsTo good L m ∧ Below w.heap.size w wr)
  case atStart => exact ⟨0, 0, [], none, 0, by omega, rfl, rfl, rfl, World.ownsRow_nil _ _ _ _, nofun, rfl, Below.refl _ _⟩
  case round =>
    obtain ⟨m, k, R, A', cc, hm, rfl, hR, rfl, hown, hst, hmap, hbel⟩ := hrel
    have HR := Lib.hid hR
    have Hown := Lib.hid hown
    have Hst := Lib.hid hst
    have Hmap := Lib.hid hmap
    have Hbel := Lib.hid hbel
    have Hge := Lib.hid (own_block_ge hown)
    clear hR hown hst hmap hbel
    cases gk with
    | zero =>
      have hmn : m = n := by omega
      have t1 : ¬ ((m : Int) < (n : Int)) := by omega
      subst hmn
      go_wp2
      go_ret
      exact ⟨A', cc, R, by rw [HR.out]; rfl, Hmap.out, Row.of_own Hown.out, fun p hp => (Hst.out p hp).free, Hbel.out⟩
    | succ gq =>
      have hlk : m < n := by omega
      have t1 : (m : Int) < (n : Int) := by omega
      have t2 : (0 : Int) ≤ (m : Int) := by omega
      obtain ⟨p, hp⟩ := list_get (k := m) HLn.out hlk
      have HpL := Lib.hid (List.mem_of_getElem? hp)
      obtain ⟨b, off, rfl, hb, hcell⟩ := HSa.out m p hp
      have FX := Lib.hid (fun j v (hv : p.1.cells[j]? = some v) => (show wr.cell? ⟨b, off + m * 6 + j, none⟩ = some v from (Hbel.out.cell (p := ⟨b, off + m * 6 + j, none⟩) hb).trans (hcell j v hv)))
      have HSm := Lib.hid (HSu.out m p hp)
      have Hin := Lib.hid (HIn.out m)
      have Ho1 := Lib.hid (samp_cells_one p)
      obtain ⟨cs, hcs⟩ : ∃ cs, p.1.cells = cs := ⟨_, rfl⟩
      have Hcs := Lib.hid hcs
      have hl6 : cs.length = 6 := by rw [← hcs]; rfl
      rw [hcs] at FX Ho1
      have Hf1 := Lib.hid (show cs.toArray.all (·.oneCell') = true by
        rw [Array.all_eq_true_iff_forall_mem]
        intro v hv
        exact Ho1.out v (by simpa using hv))
      have HFl := Lib.hid (show (Try.prog.info? 51).map (·.size) = some cs.length by rw [hi, hl6]; exact congrArg some hi1)
      have HFa := Lib.hid (show (Try.prog.info? 51).map (·.size) = some cs.toArray.size by rw [hi, List.size_toArray, hl6]; exact congrArg some hi1)
      have Hfz := Lib.hid (show cs.toArray.size = 6 by rw [List.size_toArray, hl6])
      have Hl6 := Lib.hid hl6
      obtain ⟨gS, hgS⟩ : ∃ gS, wr.heap.size = gS := ⟨_, rfl⟩
      obtain ⟨V, hV⟩ : ∃ V, wr.alloc (.cells cs.toArray 51) = V := ⟨_, rfl⟩
      have HNw := Lib.hid (show V.heap[wr.heap.size]? = some (.cells cs.toArray 51 (0, 0)) by rw [← hV]; exact heap_alloc_new wr _)
      have HN := Lib.hid (hgS ▸ HNw.out)
      have EV := Lib.hid (show Below wr.heap.size wr V by rw [← hV]; exact bnew wr _)
      have HI1 := Lib.hid (show Calls Try.prog 45 #[.int .i64 size, .slice (some ⟨V.heap.size, 0, none⟩) 1 1] (V.alloc (.cells cs.toArray 51)) fun e w' => e = .returned (.int .i64 (imageZ size ([p].map (·.2)))) ∧ Below (V.alloc (.cells cs.toArray 51)).heap.size (V.alloc (.cells cs.toArray 51)) w' from
        HIm.out [p] V.heap.size 1 _ (by simp) ⟨by
          have := Row.new V 51 cs
          simp only [World.size_alloc]
          rw [show headCells [p] = cs by simp [headCells, Hcs.out]]
          exact this, fun s hs => by
          rw [List.mem_singleton] at hs
          subst hs
          exact HFit.out _ (bnext Hbel.out (bnext EV.out (bnew V _))) s HpL.out⟩)
      have hIb := HIb.out [p] (by simp)
      have HG1 := Lib.hid (HGd.out [p])
      generalize imageZ size ([p].map (·.2)) = I1 at *
      have HgS := Lib.hid hgS
      have HVe := Lib.hid hV
      clear hp hcs hl6 hcell hb hgS hV
      go_wp2_with (first | (refine wpList_load_part_w rfl 51 (.tmp 18) rfl b (off + m * 6) rfl cs _ FX.out Try.underlying51 rfl HFl.out ?_) | (refine wpList_store_row_w rfl 51 (.tmp 9) (.tmp 19) rfl wr.heap.size rfl _ _ cs.toArray rfl (heap_alloc_new wr _) HFa.out (by rw [Hfz.out]; rfl) Hf1.out ?_; rw [World.setRow_alloc_new]; rw [HVe.out]) | (refine wpList_load_row_w rfl 51 (.tmp 9) rfl wr.heap.size rfl _ cs.toArray _ _ HNw.out Try.underlying51 rfl HFa.out ?_) | (refine wpList_build_1 rfl 48 51 (.tmp 21) rfl i0 z0 6 Try.underlying48 hi hz0 hi1 (by omega) (by omega) cs.toArray rfl Hfz.out ?_) | (go_at_call 45; fail))
      rw [HgS.out]
      refine HI1.out.mono ?_
      rintro e w5 ⟨rfl, hb5⟩
      have F5 := Lib.hid (bnext EV.out (bnext (bnew V _) hb5))
      have N5 := Lib.hid (hkeep HN.out (bnext (bnew V _) hb5))
      clear hb5 HI1 HNw EV FX
      by_cases hI0 : I1 = 0
      · have t3 : (I1 == 0) = true := beq_iff_eq.2 hI0
        have hgd : good [p] = false := by rw [HG1.out, hI0]; rfl
        have HPn := Lib.hid (show partsTo good L (m + 1) = partsTo good L m by rw [HSm.out, hgd]; rfl)
        clear hI0 hgd
        go_wp2
        go_roundg gq
        case measure => omega
        case rel => exact ⟨m + 1, k, R, A', cc, by omega, by go_num, HR.out, rfl, own_below Hown.out F5.out, fun q hq => (Hst.out q hq).below F5.out, by rw [HPn.out]; exact Hmap.out, bnext Hbel.out F5.out⟩
      by_cases hIr : room < I1
      · have t3 : (I1 == 0) = false := beq_eq_false_iff_ne.2 hI0
        have t4 : decide (room < I1) = true := decide_eq_true hIr
        have hgd : good [p] = false := by rw [HG1.out, decide_eq_false (show ¬ I1 ≤ room by omega), Bool.and_false]
        have HPn := Lib.hid (show partsTo good L (m + 1) = partsTo good L m by rw [HSm.out, hgd]; rfl)
        clear hI0 hgd
        go_wp2
        go_roundg gq
        case measure => omega
        case rel => exact ⟨m + 1, k, R, A', cc, by omega, by go_num, HR.out, rfl, own_below Hown.out F5.out, fun q hq => (Hst.out q hq).below F5.out, by rw [HPn.out]; exact Hmap.out, bnext Hbel.out F5.out⟩
      have t3 : (I1 == 0) = false := beq_eq_false_iff_ne.2 hI0
      have t4 : decide (room < I1) = false := decide_eq_false hIr
      have hgd : good [p] = true := by rw [HG1.out, decide_eq_true (show 0 < I1 by omega), decide_eq_true (show I1 ≤ room by omega)]; rfl
      have HPn := Lib.hid (show partsTo good L (m + 1) = putRow good p (partsTo good L m) by rw [HSm.out, hgd]; rfl)
      have O5 := Lib.hid (own_below Hown.out F5.out)
      have St5 := Lib.hid (fun q hq => (Hst.out q hq).below F5.out)
      have E5 := Lib.hid (bnext Hbel.out F5.out)
      clear hI0 hgd HG1 hIb HSm Hown Hst HIn HSu HSa
      have hkR : k = (partsTo good L m).length := by rw [← HR.out, ← Hmap.out, List.length_map]
      have hk18 : k ≤ 18 := by rw [hkR]; have := Hin.out.len; omega
      have HkR := Lib.hid hkR
      clear hkR
      go_wp2_with fail
      go_loopg [33] k (fun g2 i wr => ∃ j : Nat, j + g2 = k ∧ i = .int .i64 j ∧ (∀ i x, i < j → (partsTo good L m)[i]? = some x → good (x ++ [p]) = false) ∧ Below w5.heap.size w5 wr)
      case atStart => exact ⟨0, by omega, rfl, fun i x hi => by omega, Below.refl _ _⟩
      case round =>
        obtain ⟨j, hj, rfl, hno, hbel⟩ := hrel
        have Hno := Lib.hid hno
        have B6 := Lib.hid hbel
        have E6 := Lib.hid (bnext E5.out hbel)
        have N6 := Lib.hid (hkeep N5.out hbel)
        have O6 := Lib.hid (own_below O5.out hbel)
        have St6 := Lib.hid (fun q hq => (St5.out q hq).below hbel)
        have hz6 := E6.out.size
        clear hno hbel
        cases gk with
        | zero =>
          have hjk : j = k := by omega
          have t5 : ¬ ((j : Int) < (k : Int)) := by omega
          have HPf := Lib.hid (show partsTo good L (m + 1) = partsTo good L m ++ [[p]] by rw [HPn.out]; exact putRow_none (fun i x hi hx => Hno.out i x (by have := HkR.out; omega) hx))
          subst hjk
          have hlo := own_row_lt' O6.out
          have Hlo := Lib.hid hlo
          clear hlo
          go_wp2_with (first | (refine wpList_load_row_w rfl 51 (.tmp 9) rfl gS rfl _ cs.toArray _ _ N6.out Try.underlying51 rfl HFa.out ?_) | (refine wpList_build_1 rfl 48 51 (.tmp 70) rfl i0 z0 6 Try.underlying48 hi hz0 hi1 (by omega) (by omega) cs.toArray rfl Hfz.out ?_) | (refine wpList_build_1 rfl 59 48 (.tmp 71) rfl iR _ 1 Try.underlying59 hiR hzR0 hzR1 (by omega) (by omega) #[.slice (some ⟨wr.heap.size, 0, none⟩) 1 1] rfl rfl ?_) | (at_builtin; refine wpList_app _ rfl (.tmp 69) (.tmp 72) 59 rfl w.heap.size 48 iR _ 1 24 Try.underlying59 hiR hzR0 hzR1 hzR2 rfl (by omega) (.slice A' j cc) j (R.map rowV) rfl ((O6.out.alloc _).alloc _) ((wr.alloc (.cells cs.toArray 51)).heap.size + 1) (some ⟨(wr.alloc (.cells cs.toArray 51)).heap.size, 0, none⟩) 1 1 [.slice (some ⟨wr.heap.size, 0, none⟩) 1 1] rfl rfl (Row.new (wr.alloc (.cells cs.toArray 51)) 48 [.slice (some ⟨wr.heap.size, 0, none⟩) 1 1]) (fun u hu => by simp at hu; subst hu; rfl) (by omega) (by omega) (by simp; omega) ?_; intro A2 c2 w7 hown7 hgrow7 hat7 hcc7))
          obtain ⟨U1, hU1⟩ : ∃ U1, wr.alloc (.cells cs.toArray 51) = U1 := ⟨_, rfl⟩
          obtain ⟨U2, hU2⟩ : ∃ U2, U1.alloc (.cells #[.slice (some ⟨wr.heap.size, 0, none⟩) 1 1] 48) = U2 := ⟨_, rfl⟩
          rw [hU1, hU2] at hgrow7
          have HU2 := Lib.hid (show Below wr.heap.size wr U2 by rw [← hU2, ← hU1]; exact bnext (bnew wr _) (bnew _ _))
          have HNr := Lib.hid (show RStands U2 (Value.slice A' j cc).ownBlock (⟨some ⟨wr.heap.size, 0, none⟩, 1⟩, [p]) from ⟨Nat.le_refl _, by show (1 : Nat) ≤ _; omega, wr.heap.size, rfl, fun h => by have := Hlo.out _ h; omega, by rw [← hU2, ← hU1]; simp; omega, by
            have h1 := Row.new wr 51 cs
            rw [hU1] at h1
            have h2 : Below U1.heap.size U1 U2 := by rw [← hU2]; exact bnew _ _
            have h3 : wr.heap.size + 1 = U1.heap.size := by rw [← hU1]; simp
            rw [h3] at h1
            show Row U2 U2.heap.size (some ⟨wr.heap.size, 0, none⟩) (headCells [p])
            rw [show headCells [p] = cs by simp [headCells, Hcs.out]]
            exact h1.later h2⟩)
          have E7 := Lib.hid ((bnext E6.out HU2.out).grown hgrow7 (by have := HU2.out.size; omega) (fun g h => Hge.out g h))
          have HG7 := Lib.hid hgrow7
          have Hsz := Lib.hid (show U2.heap.size = wr.heap.size + 1 + 1 by rw [← hU2, ← hU1]; simp)
          have Hat := Lib.hid hat7
          clear hU1 hU2 hgrow7 hat7
          go_wp2
          go_roundg gq
          case measure => omega
          case rel =>
            have hat : (Value.slice A2 (j + 1) c2).ownBlock = (Value.slice A' j cc).ownBlock ∨ (Value.slice A2 (j + 1) c2).ownBlock = some U2.heap.size := by
              rw [Hsz.out]
              have := Hat.out
              simpa using this
            refine ⟨m + 1, j + 1, R ++ [(⟨some ⟨wr.heap.size, 0, none⟩, 1⟩, [p])], A2, c2, by omega, by go_num, by simp [HR.out], rfl, by rw [List.map_append]; exact hown7, fun q hq => ?_, by rw [List.map_append, HPf.out, Hmap.out]; rfl, E7.out⟩
            rcases List.mem_append.1 hq with h | h
            · exact ((St6.out q h).below HU2.out).grown HG7.out hat
            · rw [List.mem_singleton] at h
              rw [h]
              exact HNr.out.grown HG7.out hat
        | succ g2 =>
          have hlj : j < k := by omega
          have t5 : (j : Int) < (k : Int) := by omega
          have t6 : (0 : Int) ≤ (j : Int) := by omega
          obtain ⟨go, rfl, hgo1, hgo2⟩ := own_start O6.out (by omega)
          obtain ⟨pr, hpr⟩ := list_get (k := j) HR.out hlj
          have hprZ : (partsTo good L m)[j]? = some pr.2 := by rw [← Hmap.out, List.getElem?_map, hpr]; rfl
          have HprZ := Lib.hid hprZ
          obtain ⟨hpin1, hpin2, hpin3⟩ := Hin.out.each pr.2 (List.mem_of_getElem? hprZ)
          obtain ⟨hlc, hc63, gr, hga, hgne, hglt, hrow⟩ := St6.out pr (List.mem_of_getElem? hpr)
          have cj : wr.cell? ⟨go, j, none⟩ = some (rowV pr) := by
            obtain ⟨b', off', ha, _, hc⟩ := (Row.of_own O6.out) j (rowV pr) (by rw [List.getElem?_map, hpr]; rfl)
            injection ha with ha
            injection ha with e1 e2
            subst e1 e2
            rwa [Nat.zero_add] at hc
          have hcs0 : ∀ W, Below wr.heap.size wr W → ∀ i v, cs[i]? = some v → W.cell? ⟨gS, i, none⟩ = some v := fun W hW i v hv => (cell_of_row W gS i _ _ _ (hkeep N6.out hW)).trans (by simpa using hv)
          have Hcs0 := Lib.hid hcs0
          obtain ⟨pH, pS⟩ := p
          obtain ⟨nm, rate, lp, fr, tt, da, dl, dc⟩ := pH
          have hcsE : cs = [Value.string nm, .int .i64 rate, .bool lp, .int .i64 fr, .int .i64 tt, .slice da dl dc] := Hcs.out.symm
          have HcsE := Lib.hid hcsE
          obtain ⟨⟨ra, rc⟩, rl⟩ := pr
          obtain rfl : ra = some ⟨gr, 0, none⟩ := hga
          obtain ⟨nr, hnr⟩ : ∃ nr, rl.length = nr := ⟨_, rfl⟩
          have Hnr := Lib.hid hnr
          simp only at hlc hc63 hrow hpin1 hpin2 hpin3
          rw [hnr] at hlc hpin1 hpin2
          have Hpin3 := Lib.hid hpin3
          have Hrow := Lib.hid hrow
          have Hlo := Lib.hid (own_row_lt' O6.out)
          have hS0 : ∀ W, Below wr.heap.size wr W → (W.cell? ⟨go, j, none⟩ = some (.slice (some ⟨gr, 0, none⟩) nr rc) ∧ W.cell? ⟨gS, 0, none⟩ = some (.string nm) ∧ W.cell? ⟨gS, 1, none⟩ = some (.int .i64 rate) ∧ W.cell? ⟨gS, 2, none⟩ = some (.bool lp) ∧ W.cell? ⟨gS, 3, none⟩ = some (.int .i64 fr) ∧ W.cell? ⟨gS, 4, none⟩ = some (.int .i64 tt) ∧ W.cell? ⟨gS, 5, none⟩ = some (.slice da dl dc)) := fun W hW => by
            have h0 := Hcs0.out W hW
            rw [HcsE.out] at h0
            refine ⟨?_, h0 0 _ rfl, h0 1 _ rfl, h0 2 _ rfl, h0 3 _ rfl, h0 4 _ rfl, h0 5 _ rfl⟩
            rw [hW.cell (p := ⟨go, j, none⟩) hgo2, cj]
            show some (Value.slice _ rl.length _) = _
            rw [Hnr.out]
          have HS0 := Lib.hid hS0
          have t7 : (nr : Int) ≤ (rc : Int) := by omega
          have t8 : (0 : Int) ≤ (nr : Int) := by omega
          have Hold := Lib.hid (fun W (hW : Below wr.heap.size wr W) (b : Addr) (hb : some (⟨gr, 0, none⟩ : Addr) = some b) j u (hu : (headCells rl)[j]? = some u) => (show W.cell? (b.add j) = some u by
            injection hb with hb
            subst hb
            obtain ⟨b', off', ha, _, hc⟩ := (Hrow.out.later hW) j u hu
            injection ha with ha
            injection ha with e1 e2
            subst e1 e2
            unfold Addr.add
            by_cases hj : j = 0
            · subst hj; simpa using hc
            · simp [hj]; rwa [Nat.zero_add] at hc))
          have Hhl := Lib.hid (show (headCells rl).length = nr * 6 by rw [← Hnr.out]; exact headCells_len rl)
          clear hpr hprZ hgne hglt hrow hcs0 hcsE hnr hS0 hpin3 cj
          go_wp2_with fail
          go_region_held3 (fun w' => w'.cell? ⟨go, j, none⟩ = some (.slice (some ⟨gr, 0, none⟩) nr rc) ∧ w'.cell? ⟨gS, 0, none⟩ = some (.string nm) ∧ w'.cell? ⟨gS, 1, none⟩ = some (.int .i64 rate) ∧ w'.cell? ⟨gS, 2, none⟩ = some (.bool lp) ∧ w'.cell? ⟨gS, 3, none⟩ = some (.int .i64 fr) ∧ w'.cell? ⟨gS, 4, none⟩ = some (.int .i64 tt) ∧ w'.cell? ⟨gS, 5, none⟩ = some (.slice da dl dc))
            (first | exact HS0.out _ (below_drew wr) | exact HS0.out _ (bnext (below_drew wr) (bnew _ _)) | exact HS0.out _ (bnext (bnext (below_drew wr) (bnew _ _)) (grown_below0 hgrow9)))
            (first | (refine step_append_grows (by rfl) _ _ _ (by rfl) 51 i0 z0 6 72 Try.underlying48 hi hz0 hi1 hi2 hz0s (by omega) (some ⟨gr, 0, none⟩) nr nr (headCells rl) (by rfl) nofun Hhl.out (Hold.out _ (bnext (below_drew wr) (bnew _ _))) ⟨wr.heap.size, 0, none⟩ 1 1 [.string nm, .int .i64 rate, .bool lp, .int .i64 fr, .int .i64 tt, .slice da dl dc] (by rfl) rfl (World.news_of_block (heap_alloc_new wr.drew _)) (samp_one6 _ _ _ _ _ _ _ _) (by omega) (by unfold maxLen; omega) (by omega) ?_; intro v' w9 hown9 hgrow9))
          obtain ⟨g', c', rfl, hg1, hg2, hg3, hg4⟩ := own_val hown9 (by omega)
          have F9 := Lib.hid (bnext (bnext (below_drew wr) (bnew _ _)) (grown_below0 hgrow9))
          have hgw : wr.heap.size < g' := by simp at hg1; omega
          have R9 := Lib.hid (Row.of_own hown9)
          obtain ⟨P, hP⟩ : ∃ P : SP, (((⟨nm, rate, lp, fr, tt, da, dl, dc⟩ : HSamp), pS) : SP) = P := ⟨_, rfl⟩
          have hPc : [Value.string nm, .int .i64 rate, .bool lp, .int .i64 fr, .int .i64 tt, .slice da dl dc] = P.1.cells := by rw [← hP]; rfl
          have R9b := R9.out
          rw [hPc, ← headCells_snoc] at R9b
          have R9c := Lib.hid R9b
          rw [hP] at HpL HPn
          have HI2 := HIm.out (rl ++ [P]) g' c' w9 (by rw [List.length_append, Hnr.out]; simp; omega) ⟨R9b, fun s hs => by
            have hWw := bnext E6.out F9.out
            rcases List.mem_append.1 hs with h | h
            · exact HFit.out w9 hWw s (Hpin3.out s h)
            · rw [List.mem_singleton] at h; rw [h]; exact HFit.out w9 hWw P HpL.out⟩
          rw [List.length_append, Hnr.out, show [P].length = 1 from rfl] at HI2
          have HI2 := Lib.hid HI2
          have HG2 := Lib.hid (HGd.out (rl ++ [P]))
          have hI2b := HIb.out (rl ++ [P]) (by rw [List.length_append, Hnr.out]; simp; omega)
          have HprZ2 := Lib.hid (show (partsTo good L m)[j]? = some rl from HprZ.out)
          have Hg := Lib.hid (show nr + 1 ≤ c' ∧ c' ≤ 9223372036854775807 ∧ g' < w9.heap.size from ⟨hg3, hg4, hg2⟩)
          have Hgw := Lib.hid hgw
          rw [hP] at Hno
          generalize imageZ size ((rl ++ [P]).map (·.2)) = I2 at *
          have HPp := Lib.hid hP
          clear hown9 hgrow9 hg1 hg2 hg3 hg4 hgw hPc R9b hP HS0 Hold Hhl Hrow
          go_wp2_with (go_at_call 45; fail)
          refine HI2.out.mono ?_
          rintro e w10 ⟨rfl, hb10⟩
          have F10 := Lib.hid (bnext F9.out hb10)
          have R10 := Lib.hid (R9c.out.later hb10)
          have Hgl := Lib.hid (Nat.lt_of_lt_of_le Hg.out.2.2 hb10.size)
          have O10 := Lib.hid (own_below O6.out F10.out)
          have B10 := Lib.hid (bnext B6.out F10.out)
          clear hb10 HI2 R9c
          by_cases hI : 0 < I2 ∧ I2 ≤ room
          · have d1 : (0 : Int) < I2 := hI.1
            have d1' : decide ((0 : Int) < I2) = true := decide_eq_true hI.1
            have d2 : decide (I2 ≤ room) = true := decide_eq_true hI.2
            have hgd : good (rl ++ [P]) = true := by rw [HG2.out, d1', d2]; rfl
            have HPf := Lib.hid (show partsTo good L (m + 1) = (partsTo good L m).set j (rl ++ [P]) by rw [HPn.out]; exact putRow_at Hno.out HprZ2.out hgd)
            obtain ⟨hst1, hst2⟩ := O10.out.stored j (.slice (some ⟨g', 0, none⟩) (nr + 1) c')
            have Hst1 := Lib.hid hst1
            have Hst2 := Lib.hid hst2
            have z13 := O10.out.frozenAt j
            have hc13 : ∃ v, w10.cell? ⟨go, j, none⟩ = some v := by
              have hlen : j < (R.map rowV).length := by rw [List.length_map, HR.out]; omega
              obtain ⟨b', off', ha, _, hc⟩ := (Row.of_own O10.out) j _ (List.getElem?_eq_getElem hlen)
              injection ha with ha
              injection ha with e1 e2
              subst e1 e2
              exact ⟨_, by rwa [Nat.zero_add] at hc⟩
            obtain ⟨v13, c13⟩ := hc13
            clear hI hgd hst1 hst2 d1'
            go_wp2
            go_roundg gq
            case measure => omega
            case rel =>
              have hnew : RStands w10 (some go) (⟨some ⟨g', 0, none⟩, c'⟩, rl ++ [P]) := ⟨by rw [List.length_append, Hnr.out]; exact Hg.out.1, Hg.out.2.1, g', rfl, fun h => by injection h with h; have := Hgw.out; omega, Hgl.out, R10.out⟩
              have hrow' : ∀ x : RowA × List SP, RStands w10 (some go) x → RStands (w10.setCell ⟨go, j, none⟩ (.slice (some ⟨g', 0, none⟩) (nr + 1) c')) (some go) x := fun x hx => hx.grown Hst2.out (.inl rfl)
              refine ⟨m + 1, k, R.set j (⟨some ⟨g', 0, none⟩, c'⟩, rl ++ [P]), some ⟨go, 0, none⟩, cc, by omega, by go_num, by rw [List.length_set]; exact HR.out, rfl, ?_, fun q hq => ?_, ?_, (bnext E6.out F10.out).grown Hst2.out (by have := F10.out.size; omega) (fun h hh => by injection hh with hh; subst hh; exact hgo1)⟩
              · rw [List.map_set]
                have : rowV (⟨some ⟨g', 0, none⟩, c'⟩, rl ++ [P]) = .slice (some ⟨g', 0, none⟩) (nr + 1) c' := by
                  unfold rowV
                  rw [List.length_append, Hnr.out]; rfl
                rw [this]
                exact Hst1.out
              · rcases List.mem_or_eq_of_mem_set hq with h | h
                · exact hrow' q ((St6.out q h).below F10.out)
                · rw [h]; exact hrow' _ hnew
              · rw [List.map_set, Hmap.out, HPf.out]
          · have hgd : good (rl ++ [P]) = false := by
              rw [HG2.out]
              by_cases h1 : 0 < I2
              · rw [decide_eq_false (show ¬ I2 ≤ room from fun h2 => hI ⟨h1, h2⟩), Bool.and_false]
              · rw [decide_eq_false h1, Bool.false_and]
            have hno2 : ∀ i x, i < j + 1 → (partsTo good L m)[i]? = some x → good (x ++ [P]) = false := fun i x hi hx => by
              by_cases hij : i = j
              · subst hij
                rw [HprZ2.out] at hx
                injection hx with hx
                rw [← hx]; exact hgd
              · exact Hno.out i x (by omega) hx
            have Hno2 := Lib.hid hno2
            have hcs : (¬ ((0 : Int) < I2) ∧ decide ((0 : Int) < I2) = false) ∨ ((0 : Int) < I2 ∧ decide ((0 : Int) < I2) = true ∧ decide (I2 ≤ room) = false) := by
              by_cases h1 : 0 < I2
              · exact .inr ⟨h1, decide_eq_true h1, decide_eq_false (fun h2 => hI ⟨h1, h2⟩)⟩
              · exact .inl ⟨h1, decide_eq_false h1⟩
            clear hgd hno2 hI HPn
            rw [← HPp.out] at Hno2
            rcases hcs with ⟨e0, e1⟩ | ⟨e0, e1, e2⟩
            all_goals
              go_wp2
              go_roundg g2
              case measure => omega
              case rel => exact ⟨j + 1, by omega, by go_num, Hno2.out, B10.out⟩
end Go.Proofs.Ytbgkoopfdfnmcaa

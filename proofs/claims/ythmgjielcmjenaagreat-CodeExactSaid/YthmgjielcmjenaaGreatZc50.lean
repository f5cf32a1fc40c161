/- RdD, CodeZ. Conditions: as each theorem states. -/
import Derived.Test.YthmgjielcmjenaaGreatZc40
import Derived.Test.YthmgjielcmjenaaGreatZc46
import Derived.Test.YthmgjielcmjenaaGreatZc48
import Derived.Test.YthmgjielcmjenaaGreatZc49

namespace Go.Proofs.YthmgjielcmjenaaGreat
open Go.RowKit

/-- how long a slice is -/
def lenOf (v : Value) : Nat := match v with | .slice _ n _ => n | _ => 0
def chunk (B : List Nat) (size i : Nat) : List Nat := (B.drop (i * size)).take size
theorem chunk_len {B : List Nat} {size i : Nat} (h : (i + 1) * size ≤ B.length) : (chunk B size i).length = size := by
  unfold chunk
  rw [List.length_take, List.length_drop]
  rw [Nat.succ_mul] at h
  omega
theorem chunk_mem {B : List Nat} {size i : Nat} (hb : ∀ x ∈ B, x < 256) : ∀ x ∈ chunk B size i, x < 256 := fun x hx => hb x (List.mem_of_mem_drop (List.mem_of_mem_take hx))
theorem u8s_take (B : List Nat) (n : Nat) : u8s (B.take n) = (u8s B).take n := by simp [u8s, List.map_take]
theorem u8s_drop (B : List Nat) (n : Nat) : u8s (B.drop n) = (u8s B).drop n := by simp [u8s, List.map_drop]
/-- a part of a row -/
theorem Row.cut {w : World} {W : Nat} {b off : Nat} {xs : List Value} (h : Row w W (some ⟨b, off, none⟩) xs) (o n : Nat) : Row w W (some ⟨b, off + o, none⟩) ((xs.drop o).take n) := fun i v hv => by
  rw [List.getElem?_take] at hv
  split at hv
  · rw [List.getElem?_drop] at hv
    obtain ⟨b', off', ha, hb, hc⟩ := h (o + i) v hv
    injection ha with ha
    injection ha with e1 e2
    subst e1 e2
    exact ⟨b, off + o, rfl, hb, by rw [Nat.add_assoc]; exact hc⟩
  · cases hv
theorem rdF_len (B : List Nat) : (rdF B).Len := by
  unfold rdF
  split
  · exact frameR_len B
  · exact ⟨rfl, rfl, rfl, rfl⟩
theorem rdF_ok {B : List Nat} (h : rdErr B = 0) : rdF B = frameR B ∧ RightF (frameR B) := by
  refine ⟨if_pos h, ?_⟩
  by_cases h0 : endR B = 0
  · by_cases hR : RightF (frameR B)
    · exact hR
    · have := (rd_c h0 hR).1
      omega
  · have := (rd_a h0).1
    omega
/-- frames read, or the first error -/
def ReadPost (W : World) (B : List Nat) (size : Nat) (e : Ending) (w' : World) : Prop :=
  (∃ m, (m + 1) * size ≤ B.length ∧ (∀ i, i < m → rdErr (chunk B size i) = 0) ∧ rdErr (chunk B size m) ≠ 0 ∧ e = .returned (.tuple #[.slice none 0 0, .int .i64 (rdErr (chunk B size m))]) ∧ Below W.heap.size W w') ∨
  ((∀ i, i < B.length / size → rdErr (chunk B size i) = 0) ∧ FramesPost W ((List.range (B.length / size)).map fun i => frameR (chunk B size i)) e w')
theorem CRead_nil (A : Option Addr) (n c : Nat) (w : World) : Calls Tryz.prog 7 #[.pointer none, .slice A n c] w fun e w' => e = .returned (.tuple #[.slice none 0 0, .int .i64 16]) ∧ w = w' := by
  go_enter Tryz.func7, Tryz.ntmps7
  go_wp2
  refine bodyPost_ret (results_tmp2 Tryz.results7 _ _ _) rfl ?_
  exact ⟨rfl, rfl⟩
set_option maxRecDepth 100000 in
theorem CRead_odd (gc size : Nat) (A : Option Addr) (n c : Nat) (w : World) (hg : CoderAt w gc size) (h0 : 0 < size) (hs : size ≤ 96) (hn : n ≤ 1000000) (h : n % size ≠ 0) : Calls Tryz.prog 7 #[.pointer (some ⟨gc, 0, none⟩), .slice A n c] w fun e w' => e = .returned (.tuple #[.slice none 0 0, .int .i64 12]) ∧ Below w.heap.size w w' := by
  have c32 : w.cell? ⟨gc, 32, none⟩ = some (.int .i64 size) := (cell_of_row _ _ _ _ _ _ hg).trans (coder_size _)
  have hrm : (n : Int).tmod (size : Int) = ((n % size : Nat) : Int) := by rw [Int.tmod_eq_emod_of_nonneg (by omega)]; rfl
  have t0 : ((size : Int) == 0) = false := beq_eq_false_iff_ne.2 (by omega)
  obtain ⟨r, hr⟩ : ∃ r, n % size = r := ⟨_, rfl⟩
  rw [hr] at hrm h
  have t1 : ((r : Int) != 0) = true := by simp; omega
  clear hg hr h
  go_enter Tryz.func7, Tryz.ntmps7
  go_wp2
  refine bodyPost_ret (results_tmp2 Tryz.results7 _ _ _) rfl ?_
  exact ⟨rfl, Below.refl _ _⟩

set_option maxRecDepth 100000 in
theorem CRead_empty (gc size : Nat) (A : Option Addr) (c : Nat) (w : World) (hg : CoderAt w gc size) (h0 : 0 < size) (hs : size ≤ 96) : Calls Tryz.prog 7 #[.pointer (some ⟨gc, 0, none⟩), .slice A 0 c] w fun e w' => e = .returned (.tuple #[.slice none 0 0, .int .i64 0]) ∧ Below w.heap.size w w' := by
  have c32 : w.cell? ⟨gc, 32, none⟩ = some (.int .i64 size) := (cell_of_row _ _ _ _ _ _ hg).trans (coder_size _)
  have hrm : ((0 : Nat) : Int).tmod (size : Int) = 0 := by simp
  have hrm2 : (0 : Int).tmod (size : Int) = 0 := by simp
  have t0 : ((size : Int) == 0) = false := beq_eq_false_iff_ne.2 (by omega)
  clear hg
  go_enter Tryz.func7, Tryz.ntmps7
  go_wp2_with fail
  go_loopw [1, 6] (fun b o wr => b = .slice A 0 c ∧ o = .slice none 0 0 ∧ wr = w) (fun _ _ _ => 0)
  case atStart => exact ⟨rfl, rfl, rfl⟩
  case round =>
    obtain ⟨rfl, rfl, rfl⟩ := hrel
    go_wp2
    refine bodyPost_ret (results_tmp2 Tryz.results7 _ _ _) rfl ?_
    exact ⟨rfl, Below.refl _ _⟩

set_option maxRecDepth 100000 in
set_option maxHeartbeats 8000000 in
theorem CRead_any (gc size : Nat) (B : List Nat) (A : Option Addr) (c : Nat) (w : World) (hg : CoderAt w gc size) (h0 : 0 < size) (hs : size ≤ 96) (hB0 : 0 < B.length) (hn : B.length ≤ 1000000) (hb : ∀ x ∈ B, x < 256) (hr : Row w w.heap.size A (u8s B))
    (hcap : B.length ≤ c) (hdiv : B.length % size = 0) :
    Calls Tryz.prog 7 #[.pointer (some ⟨gc, 0, none⟩), .slice A B.length c] w (ReadPost w B size) := by
  obtain ⟨bb, off, rfl⟩ : ∃ bb off, A = some ⟨bb, off, none⟩ := by
    obtain ⟨x, hx⟩ := list_get (k := 0) (b := B) rfl hB0
    obtain ⟨b, off, ha, _, _⟩ := hr 0 _ (u8s_get hx)
    exact ⟨b, off, ha⟩
  obtain ⟨i0, hi, ⟨z0, hz0, hz0s⟩, hi1, hi2⟩ := frames_info
  obtain ⟨K, hK⟩ : ∃ K, B.length / size = K := ⟨_, rfl⟩
  have hKn : B.length = K * size := by
    have := Nat.div_add_mod B.length size
    rw [hK, hdiv, Nat.mul_comm] at this
    omega
  have hK0 : 0 < K := Nat.pos_of_ne_zero (fun h => by rw [h, Nat.zero_mul] at hKn; omega)
  have HRd := Lib.hid (fun m (hm : m < K) W (hW : Below w.heap.size w W) => (show Calls Tryz.prog 12 #[.slice (some ⟨bb, off + m * size, none⟩) size (c - m * size)] W (FitPost W (rdF (chunk B size m)) (rdErr (chunk B size m))) from by
    have hl := chunk_len (B := B) (size := size) (i := m) (by rw [hKn]; exact Nat.mul_le_mul (by omega) (Nat.le_refl _))
    have h2 : chunk B size m = (B.drop (m * size)).take size := rfl
    have := FRead_any (chunk B size m) (some ⟨bb, off + m * size, none⟩) (c - m * size) W (by omega) (by omega) (chunk_mem hb) (by
      rw [h2, u8s_take, u8s_drop]
      exact (hr.later hW).cut (m * size) size)
    rw [hl] at this
    exact this))
  have HCs := Lib.hid (coder_size (size : Int))
  have Hg := Lib.hid (show w.heap[gc]? = some (.cells (coderA size) 62 (0, 0)) from hg)
  have HLn := Lib.hid (fun i => rdF_len (chunk B size i))
  have HOk := Lib.hid (fun i (h : rdErr (chunk B size i) = 0) => rdF_ok h)
  have HNo := Lib.hid (fun e w' (h : ∃ m, (m + 1) * size ≤ B.length ∧ (∀ i, i < m → rdErr (chunk B size i) = 0) ∧ rdErr (chunk B size m) ≠ 0 ∧ e = .returned (.tuple #[.slice none 0 0, .int .i64 (rdErr (chunk B size m))]) ∧ Below w.heap.size w w') => (show ReadPost w B size e w' from .inl h))
  have HYe := Lib.hid (fun e w' (h1 : ∀ i, i < K → rdErr (chunk B size i) = 0) (h2 : FramesPost w ((List.range K).map fun i => frameR (chunk B size i)) e w') => (show ReadPost w B size e w' from .inr (by rw [hK]; exact ⟨h1, h2⟩)))
  have hmul : ∀ m, m < K → m * size + size ≤ K * size := fun m hm => by
    have := Nat.mul_le_mul_right size (show m + 1 ≤ K by omega)
    rwa [Nat.succ_mul] at this
  have Hmul := Lib.hid hmul
  have HKn := Lib.hid hKn
  obtain ⟨N, hN⟩ : ∃ N, B.length = N := ⟨_, rfl⟩
  have HBN := Lib.hid hN
  rw [hN] at hn hcap hdiv hB0 hKn ⊢
  have HNK := Lib.hid hKn
  generalize hCv : coderA (size : Int) = cv at *
  generalize hRP : ReadPost w B size = RP at *
  have hrm : (N : Int).tmod (size : Int) = 0 := by rw [Int.tmod_eq_emod_of_nonneg (by omega)]; omega
  have t0 : ((size : Int) == 0) = false := beq_eq_false_iff_ne.2 (by omega)
  have c32 : w.cell? ⟨gc, 32, none⟩ = some (.int .i64 size) := (cell_of_row _ _ _ _ _ _ Hg.out).trans HCs.out
  clear hg hb hr hmul hN hK hKn hdiv hCv hRP
  go_enter Tryz.func7, Tryz.ntmps7
  go_wp2_with fail
  clear c32
  go_loopw [1, 6] (fun b o wr => ∃ (m r : Nat) (M : List (FrH × FrameV)) (A' : Option Addr) (cc : Nat), m ≤ K ∧ r + m * size = N ∧ (m < K → b = .slice (some ⟨bb, off + m * size, none⟩) r (c - m * size)) ∧ (m = K → ∃ ad c', b = .slice ad 0 c') ∧ M.length = m ∧ o = .slice A' m cc ∧ wr.ownsRow w.heap.size 42 29 (.slice A' m cc) m (framesC M) ∧
      (∀ p ∈ M, p.2.Len) ∧ (∀ p ∈ M, FrStands wr (Value.slice A' m cc).ownBlock p) ∧ M.map Prod.snd = ((List.range m).map fun i => frameR (chunk B size i)) ∧ (∀ i, i < m → rdErr (chunk B size i) = 0) ∧ Below w.heap.size w wr) (fun b _ _ => lenOf b)
  case atStart => exact ⟨0, N, [], none, 0, by omega, by omega, fun _ => by rw [Nat.zero_mul, Nat.add_zero, Nat.sub_zero], fun h => by omega, rfl, rfl, World.ownsRow_nil _ _ _ _, nofun, nofun, rfl, fun i hi => by omega, Below.refl _ _⟩
  case round =>
    obtain ⟨m, r, M, A', cc, hm, hrN, hb1, hb2, hM, rfl, hown, hlen, hst, hmap, hok, hbel⟩ := hrel
    have HM := Lib.hid hM
    have Hown := Lib.hid hown
    have Hlen := Lib.hid hlen
    have Hst := Lib.hid hst
    have Hmap := Lib.hid hmap
    have Hbel := Lib.hid hbel
    have Hge := Lib.hid (own_block_ge hown)
    have Hokk := Lib.hid hok
    have HrN := Lib.hid hrN
    clear hM hown hlen hst hmap hbel hok
    by_cases hlk : m < K
    · obtain rfl := hb1 hlk
      have hm1 := Hmul.out m hlk
      rw [← HNK.out] at hm1
      have t1 : (0 : Int) < (r : Int) := by omega
      have hm6 : m + 1 ≤ 1000001 := by have := Nat.le_mul_of_pos_right m h0; omega
      have cw := (cell_of_row _ _ _ _ _ _ (hkeep Hg.out Hbel.out)).trans HCs.out
      obtain ⟨ms, hms⟩ : ∃ ms, m * size = ms := ⟨_, rfl⟩
      have Hms := Lib.hid hms
      rw [hms] at hrN hm1
      have t2 : (0 : Int) ≤ (size : Int) := by omega
      have t3 : (size : Int) ≤ ((c - ms : Nat) : Int) := by omega
      have t4 : (size : Int) ≤ (r : Int) := by omega
      have HR := Lib.hid (HRd.out m hlk wr Hbel.out)
      rw [hms] at HR
      rw [hms]
      clear hb1 hb2
      go_wp2_with (go_at_call 12; fail)
      refine HR.out.mono ?_
      rintro e w6 ⟨Af, cf, rfl, htl, hcf, hfr, hrow, hb6⟩
      have HL := HLn.out m
      have HOkm := Lib.hid (HOk.out m)
      have HNo2 := Lib.hid (fun e w' (h1 : rdErr (chunk B size m) ≠ 0) h2 h3 => HNo.out e w' ⟨m, by rw [HKn.out]; exact Nat.mul_le_mul (by omega) (Nat.le_refl _), Hokk.out, h1, h2, h3⟩)
      generalize hF : rdF (chunk B size m) = F at *
      generalize her : rdErr (chunk B size m) = er at *
      have HEr := Lib.hid her
      obtain ⟨p, hp⟩ : ∃ p : FrH × FrameV, (⟨⟨Af, cf⟩, F⟩ : FrH × FrameV) = p := ⟨_, rfl⟩
      have hpf : p.2 = F := by rw [← hp]
      have hpc : frameA F (.slice Af F.tones.length cf) = (frC p).toArray := by rw [← hp]; rfl
      rw [hpc]
      have Hlt := own_row_lt Hown.out
      have hpl : (frC p).length = 29 := frC_len (by rw [hpf]; exact HL)
      have HP := Lib.hid (show FrStands w6 (Value.slice A' m cc).ownBlock p from by
        rw [← hp]
        exact stands_new htl hcf hrow hfr (fun k hk => Hlt k hk))
      have HLp := Lib.hid (show p.2.Len by rw [hpf]; exact HL)
      have Hpf := Lib.hid hpf
      have Hst6 := Lib.hid (fun q hq => (Hst.out q hq).below hb6)
      have Hown6 := Lib.hid (own_below Hown.out hb6)
      have E6 := Lib.hid (bnext Hbel.out hb6)
      have Hp1 := Lib.hid (frC_one p)
      obtain ⟨fl, hfl⟩ : ∃ fl, frC p = fl := ⟨_, rfl⟩
      have Hfl2 := Lib.hid hfl
      rw [hfl] at Hp1 hpl ⊢
      have Hpl := Lib.hid hpl
      have hfs : fl.toArray.size = 29 := by rw [List.size_toArray, hpl]
      have Hfs := Lib.hid hfs
      have HFf := Lib.hid (show (Tryz.prog.info? 42).map (·.size) = some fl.toArray.size by rw [hfs]; exact inf_frame)
      have Hf1 := Lib.hid (show fl.toArray.all (·.oneCell') = true by
        rw [Array.all_eq_true_iff_forall_mem]
        intro v hv
        exact Hp1.out v (by simpa using hv))
      clear htl hcf hfr hrow hb6 hp hpf hpc hpl hfl hfs Hlt hF her HL HR HRd HNo HOk HLn
      have HNV := Lib.hid (heap_alloc_new w6 (.cells fl.toArray 42))
      have HownV := Lib.hid (Hown6.out.alloc (.cells fl.toArray 42))
      have HstV := Lib.hid (fun q hq => (Hst6.out q hq).below (bnew w6 (.cells fl.toArray 42)))
      have HPV := Lib.hid (HP.out.below (bnew w6 (.cells fl.toArray 42)))
      have EV := Lib.hid (bnext E6.out (bnew w6 (.cells fl.toArray 42)))
      obtain ⟨V, hV⟩ : ∃ V, w6.alloc (.cells fl.toArray 42) = V := ⟨_, rfl⟩
      clear Hown6 Hst6 HP E6 cw
      rw [hV] at HNV HownV HstV HPV EV
      have hzV := EV.out.size
      have CV := Lib.hid (hkeep Hg.out EV.out)
      have Hgl := Lib.hid (hlt Hg.out)
      by_cases he0 : er = 0
      · have t5 : (er != 0) = false := by rw [he0]; rfl
        have HRF := Lib.hid (HOkm.out he0)
        have He0 := Lib.hid he0
        clear he0 HOkm HNo2
        go_wp2_with (first | (refine wpList_store_row_w rfl 42 (.tmp 7) (.tmp 38) rfl w6.heap.size rfl _ _ fl.toArray rfl (heap_alloc_new w6 _) HFf.out (by rw [Hfs.out]; rfl) Hf1.out ?_; rw [World.setRow_alloc_new]; rw [hV]) | (refine wpList_load_row_w rfl 42 (.tmp 7) rfl w6.heap.size rfl _ fl.toArray _ _ HNV.out Tryz.underlying42 rfl HFf.out ?_) | (refine wpList_build_one rfl 28 42 (.tmp 44) rfl i0 z0 29 Tryz.underlying28 hi hz0 hi1 (by omega) (by omega) fl.toArray rfl Hfs.out ?_) | (at_builtin; refine wpList_app _ rfl (.tmp 43) (.tmp 45) 28 rfl w.heap.size 42 i0 z0 29 248 Tryz.underlying28 hi hz0 hi1 hi2 hz0s (by omega) _ m (framesC M) rfl (HownV.out.alloc _) (V.heap.size + 1) (some ⟨V.heap.size, 0, none⟩) 1 1 fl rfl (by rw [Hpl.out]) (Row.new V _ fl) Hp1.out (by omega) (by omega) (by simp; omega) ?_; intro A2 c2 w7 hown7 hgrow hat hcc7; have G7 := Lib.hid (grown_b (bnew V _) hgrow); have cw7 := (cell_of_row _ _ _ _ _ _ ((G7.out.block gc (hlt CV.out) (fun h => by have := Hge.out _ h.symm; have := Hgl.out; omega)).trans CV.out)).trans HCs.out))
        go_roundw
        case rel =>
          have hb7 : Below w.heap.size w w7 := (EV.out.alloc (by omega) _).grown hgrow (by simp; omega) (fun g h => Hge.out g h)
          have hst2 : ∀ q, FrStands V (Value.slice A' m cc).ownBlock q → FrStands w7 (Value.slice A2 (m + 1) c2).ownBlock q := fun q hq => (hq.below (bnew V _)).grown hgrow hat
          refine ⟨m + 1, r - size, M ++ [p], A2, c2, by omega, ?_, fun hlt => ?_, fun heq => ?_, by simp [HM.out], rfl, ?_, ?_, ?_, ?_, ?_, hb7⟩
          · rw [Nat.succ_mul]
            have := HrN.out
            have := Hms.out
            omega
          · have := Hmul.out (m + 1) hlt
            rw [Nat.succ_mul, Hms.out] at this
            have h1 := HNK.out
            rw [if_neg (by omega), Nat.succ_mul, Hms.out, ← Nat.add_assoc, Nat.sub_sub]
          · have h1 := HNK.out
            rw [← heq, Nat.succ_mul, Hms.out] at h1
            have h2 := HrN.out
            rw [Hms.out] at h2
            exact ⟨_, _, by rw [show r - size = 0 by omega]⟩
          · rw [framesC_snoc, Hfl2.out]; exact hown7
          · intro q hq
            rcases List.mem_append.1 hq with h | h
            · exact Hlen.out q h
            · rw [List.mem_singleton] at h; rw [h]; exact HLp.out
          · intro q hq
            rcases List.mem_append.1 hq with h | h
            · exact hst2 q (HstV.out q h)
            · rw [List.mem_singleton] at h; rw [h]; exact hst2 p HPV.out
          · rw [List.map_append, Hmap.out, List.range_succ, List.map_append]
            simp only [List.map_cons, List.map_nil, Hpf.out, HRF.out.1]
          · intro i hi
            by_cases him : i = m
            · rw [him, HEr.out]; exact He0.out
            · exact Hokk.out i (by omega)
        case measure =>
          show r - size < r
          omega
      · have t5 : (er != 0) = true := by simp [he0]
        have He0 := Lib.hid he0
        clear he0
        go_wp2_with (first | (refine wpList_store_row_w rfl 42 (.tmp 7) (.tmp 38) rfl w6.heap.size rfl _ _ fl.toArray rfl (heap_alloc_new w6 _) HFf.out (by rw [Hfs.out]; rfl) Hf1.out ?_; rw [World.setRow_alloc_new]; rw [hV]))
        refine HNo2.out _ _ He0.out ?_ EV.out
        rfl
    · have hmK : m = K := by omega
      obtain ⟨ad, c', rfl⟩ := hb2 hmK
      subst hmK
      clear hb1 hb2
      go_wp2
      refine HYe.out _ _ Hokk.out ⟨A', cc, M, by rw [HM.out]; rfl, Hmap.out, by rw [HM.out]; exact own_len Hown.out, own_cap Hown.out, ⟨Row.of_own Hown.out, Hlen.out, fun p hp => (Hst.out p hp).1⟩, Hbel.out⟩
end Go.Proofs.YthmgjielcmjenaaGreat

namespace Go.Proofs.YthmgjielcmjenaaGreat
/-- the empty list of frames has no bytes -/
theorem bytesF_nil (size : Nat) : bytesF size [] = [] := rfl
end Go.Proofs.YthmgjielcmjenaaGreat

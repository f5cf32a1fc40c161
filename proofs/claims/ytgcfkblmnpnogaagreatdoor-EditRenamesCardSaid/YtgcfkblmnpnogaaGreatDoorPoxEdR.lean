/- EdR. Conditions: as each theorem states. -/
import Derived.Test.YtgcfkblmnpnogaaGreatDoorPoxEdQ
import Derived.Test.YtgcfkblmnpnogaaGreatDoorPo04
namespace Go.Proofs.YtgcfkblmnpnogaaGreatDoor
open Go.RowKit Go.Lib
theorem wp_build_one {P : Program} {o : Oper} {a : Act} {w : World} {K : Act → World → Prop} {Q : Exit → Act → World → Prop} (t e : TypeId) (x : Operand) (ho : o.op = .buildSlice t 1 #[(0, x)])
  (ie : TypeInfo) (z : Value) (s : Nat) (hu : P.underlying t = some (.slice e)) (hie : P.info? e = some ie) (hz : ie.zero = some z) (hs : ie.size = s) (h0 : 0 < s) (hs2 : s ≤ 1000000) (cs : Array Value) (hx : (a.eval x).cells = cs) (hcs : cs.size = s)
  (h : K (a.put o.dst (.slice (some ⟨w.heap.size, 0, none⟩) 1 1)) (w.alloc (.cells cs e))) : o.wp P a w K Q := by
 refine wp_buildSlice t e 1 #[(0, x)] ho cs ie z hu hie hz (by rw [hs]; omega) (by rw [hs]; omega) ?_ h
 rw [hs]
 have := Great.fill_whole (s := s) h0 [a.eval x] ((Array.range (1 * s)).map (z.cells[· % z.cells.size]!)) (fun v hv => by rw [List.mem_singleton] at hv; rw [hv, hx, hcs]) (by simp)
 simpa [hx] using this
set_option maxRecDepth 100000 in
set_option maxHeartbeats 16000000 in
theorem Rename_any {size : Nat} {D : List MetaV} {FR : List (List Nat)} (hC : CanB size D FR) (hFR : FR.length ≤ 30000) (g : Nat) (name other : ByteArray) (w : World) (hB : BankAt w g (bldZ size D FR) size (bldDir size D)) :
  Calls Tryz.prog 32 #[.pointer (some ⟨g, 0, none⟩), .string name, .string other] w (RenameP w size (allZ size D FR D.length) name other) := by
 obtain ⟨i0, hi, ⟨z0, hz0, hz0s⟩, hi1, hi2⟩ := raw_info
 have HSz := hid (fun W (hW : Below w.heap.size w W) => BSize_any (hB.later hW) (by have := hC.lo; omega))
 have HAl := hid (all_any hC g w hB)
 have hlo := hC.lo
 have hzl := allZ_len size D FR D.length (Nat.le_refl _)
 have hmany := hC.many
 have HRs := hid (hC.raws hFR)
 have HAt := hid (fun L A c (nm : ByteArray) W (hL : List.length L ≤ 1000) hr => at_any L A c nm W hL hr)
 have HLt := hid (fun (h : atB (allZ size D FR D.length) name = true) => at_of h)
 have HIs := hid (fun W => IsName_any other W)
 obtain ⟨ion, hion⟩ : ∃ b, isName other = b := ⟨_, rfl⟩
 rw [hion] at HIs
 have Hion := hid hion
 generalize allZ size D FR D.length = Z at *
 obtain ⟨n, hn⟩ : ∃ n, D.length = n := ⟨_, rfl⟩
 rw [hn] at hzl hmany
 obtain ⟨i, hie⟩ : ∃ i, atZ Z name = i := ⟨_, rfl⟩
 rw [hie] at HLt
 have Hie := hid hie
 have Hzl := hid hzl
 have t0 : ((size : Int) == 0) = false := beq_eq_false_iff_ne.2 (by omega)
 clear hB hC hFR hn hie hion
 go_enter Tryz.func32, Tryz.ntmps32
 go_wp2_with (first | (go_at_call 51; refine (HSz.out _ (Below.refl _ _)).mono ?_; rintro e w2 ⟨rfl, rfl⟩) | (go_at_call 89; fail))
 refine HAl.out.mono ?_
 rintro e w1 ⟨A, c, L, rfl, hmap, hraws, hb1⟩
 have hLl : L.length = n := by rw [← hzl, ← hmap, List.length_map]
 have B1 := hid hb1
 have HR := hid hraws
 have HA1 := hid (HAt.out L A c name w1 (by omega) (Row.of_own hraws.own))
 rw [hmap, Hie.out] at HA1
 have Hmap := hid hmap
 have HLl := hid hLl
 rw [hLl] at HA1 ⊢
 clear hraws hb1 hmap HAl hLl
 go_wp2_with (go_at_call 90; fail)
 refine HA1.out.mono ?_
 rintro e w2 ⟨rfl, hb2⟩
 have E2 := hid (bnext B1.out hb2)
 have B2 := hid hb2
 clear hb2 HA1
 cases hat : atB Z name with
 | false =>
  go_wp2_with (go_at_call 51; fail)
  refine bodyPost_ret (results_tmp2 Tryz.results32 _ _ _) rfl ?_
  exact ⟨fun _ => ⟨rfl, E2.out⟩, fun h => (by rw [hat] at h; cases h), fun h => (by rw [hat] at h; cases h), fun r h => (by rw [hat] at h; cases h)⟩
 | true =>
  obtain ⟨r, hr, -⟩ := HLt.out hat
  have hin := (List.getElem?_eq_some_iff.1 hr).1
  rw [hzl] at hin
  have u1 : (i : Int) < (n : Int) := by omega
  have u2 : (0 : Int) ≤ (i : Int) := by omega
  obtain ⟨p, hp⟩ : ∃ p, L[i]? = some p := ⟨_, List.getElem?_eq_getElem (by rw [HLl.out]; exact hin)⟩
  have hpz : p.2 = r := by
   have h1 : (L.map Prod.snd)[i]? = some p.2 := by rw [List.getElem?_map, hp]; rfl
   rw [Hmap.out, hr] at h1
   exact (Option.some.inj h1).symm
  obtain ⟨b, off, hAb, hbl, hcl⟩ := raw_at (Row.of_own HR.out.own) hp
  have HX := hid (fun (W : World) (hW : Below w1.heap.size w1 W) j v (hv : (rawC p)[j]? = some v) => (show W.cell? ⟨b, off + i * 10 + j, none⟩ = some v from (hW.cell (p := ⟨b, off + i * 10 + j, none⟩) hbl).trans (hcl j v hv)))
  have Hr := hid hr
  have Hp := hid hp
  have Hpz := hid hpz
  have Hat := hid hat
  subst hAb
  clear hr hp hpz hbl hcl hat
  cases ion with
  | false =>
   go_wp2_with (go_at_call 34; refine (HIs.out _).mono ?_; rintro e w3 ⟨rfl, rfl⟩)
   refine bodyPost_ret (results_tmp2 Tryz.results32 _ _ _) rfl ?_
   exact ⟨fun h => (by rw [Hat.out] at h; cases h), fun _ _ => ⟨rfl, E2.out⟩, fun _ h => (by rw [Hion.out] at h; cases h), fun r _ _ h => (by rw [Hion.out] at h; cases h)⟩
  | true =>
   have hpl := rawC_len p
   have Hp1 := hid (rawC_one p)
   have HX2 := hid (HX.out w2 B2.out)
   obtain ⟨pc, hpc⟩ : ∃ pc, rawC p = pc := ⟨_, rfl⟩
   rw [hpc] at hpl HX2 Hp1
   have Hpc := hid hpc
   have HFl := hid (show (Tryz.prog.info? 149).map (·.size) = some pc.length by rw [hpl]; exact inf_raw)
   have Hps := hid (show pc.toArray.size = 10 by rw [List.size_toArray, hpl])
   have HFz := hid (show (Tryz.prog.info? 149).map (·.size) = some pc.toArray.size by rw [Hps.out]; exact inf_raw)
   have HO1 := hid (show pc.toArray.all (·.oneCell') = true by
    rw [Array.all_eq_true_iff_forall_mem]
    intro v hv
    exact Hp1.out v (by simpa using hv))
   obtain ⟨w3, hw3⟩ : ∃ w3, w2.alloc (.cells pc.toArray 149) = w3 := ⟨_, rfl⟩
   have B3 := hid (show Below w2.heap.size w2 w3 by rw [← hw3]; exact bnew w2 _)
   have X3 := hid (show Blk w3 w2.heap.size 149 pc by rw [← hw3]; exact Blk.new w2 _ pc)
   have R3 := hid (HR.out.below (bnext B2.out B3.out))
   have HD3 := hid (del_at L (some ⟨b, off, none⟩) c i w.heap.size w3 (by rw [HLl.out]; exact hin) (by rw [HLl.out]; omega) (bnext E2.out B3.out).size R3.out)
   rw [HLl.out] at HD3
   have hel : (L.eraseIdx i).length = n - 1 := by rw [List.length_eraseIdx, HLl.out, if_pos hin]
   rw [hel] at HD3
   have Hw3 := hid hw3
   clear hpc hpl hw3
   go_wp2_with (first | (go_at_call 34; refine (HIs.out _).mono ?_; rintro e w' ⟨rfl, rfl⟩) | (refine wpList_load_part_w rfl 149 (.tmp 32) rfl b (off + i * 10) rfl pc _ HX2.out Tryz.underlying149 rfl HFl.out ?_) | (refine wpList_store_row_w rfl 149 (.tmp 11) (.tmp 33) rfl w2.heap.size rfl _ _ pc.toArray rfl (heap_alloc_new w2 _) HFz.out (by rw [Hps.out]; rfl) HO1.out ?_; rw [World.setRow_alloc_new, Hw3.out]) | (go_at_call 91; fail))
   refine HD3.out.mono ?_
   rintro e w4 ⟨rfl, hr4, hg4⟩
   have R4 := hid hr4
   have hge : (L.eraseIdx i).map Prod.snd = Z.eraseIdx i := by rw [map_erase, Hmap.out]
   have HA4 := hid (HAt.out (L.eraseIdx i) (some ⟨b, off, none⟩) c other w4 (by omega) (Row.of_own hr4.own))
   rw [hge, hel] at HA4
   have hb1' : b < w1.heap.size := by
    rcases HR.out.own.2 with ⟨hv0, _⟩ | ⟨b', _, _, hv0, _, hg', _⟩
    ·cases hv0
    ·injection hv0 with e1
     injection e1 with e1
     injection e1 with e1
     rw [e1]
     exact hlt hg'
   have hbne : b ≠ w2.heap.size := by have := B2.out.size; omega
   have X4 := hid (X3.out.grown hg4 (fun e => hbne (Option.some.inj e).symm))
   have E4 := hid (show Below w.heap.size w w4 from (bnext E2.out B3.out).grown hg4 (bnext E2.out B3.out).size (fun k hk => own_block_ge R3.out.own k (by rw [HLl.out]; exact hk)))
   have HP4 := hid (show RawAt w4 p from by
    have h1 := (((HR.out.each p (List.mem_of_getElem? Hp.out)).below B2.out).below B3.out)
    exact h1.far R3.out.own (by decide) (by decide) (by rw [HLl.out]; exact hg4))
   clear hr4 hg4 HD3
   go_wp2_with (go_at_call 90; fail)
   refine HA4.out.mono ?_
   rintro e w5 ⟨rfl, hb5⟩
   have B5 := hid hb5
   have E5 := hid (bnext E4.out hb5)
   obtain ⟨k, hk⟩ : ∃ k, atZ (Z.eraseIdx i) other = k := ⟨_, rfl⟩
   have Hk := hid hk
   rw [hk]
   cases hat2 : atB (Z.eraseIdx i) other with
   | true =>
    have Hat2 := hid hat2
    clear hb5 hk hat2
    go_wp2_with (go_at_call 51; fail)
    refine bodyPost_ret (results_tmp2 Tryz.results32 _ _ _) rfl ?_
    exact ⟨fun h => (by rw [Hat.out] at h; cases h), fun _ h => (by rw [Hion.out] at h; cases h), fun _ _ _ => ⟨rfl, E5.out⟩, fun r _ _ _ h => (by rw [Hie.out, Hat2.out] at h; cases h)⟩
   | false =>
    have Hat2 := hid hat2
    have X5 := hid (X4.out.below hb5 X4.out.lt)
    have hpc0 : pc[0]? = some (.string p.2.m.name) := by rw [← Hpc.out]; rfl
    have x0 := (X5.out.cell 0).trans hpc0
    have f0 := X5.out.frozen 0
    clear hb5 hk hat2 HA4
    obtain ⟨w7, hw7⟩ : ∃ w7, w5.setCell ⟨w2.heap.size, 0, none⟩ (.string other) = w7 := ⟨_, rfl⟩
    obtain ⟨qc, hqc⟩ : ∃ qc, pc.set 0 (.string other) = qc := ⟨_, rfl⟩
    have hg7 : w5.grownBy w7 (some w2.heap.size) := by rw [← hw7]; exact grownBy_setB (World.grownBy.refl _ _) _ _
    have X7 := hid (show Blk w7 w2.heap.size 149 qc by rw [← hw7, ← hqc]; exact Blk.set_ X5.out 0 (.string other))
    have hwge : w.heap.size ≤ w2.heap.size := E2.out.size
    have E7 := hid (show Below w.heap.size w w7 from E5.out.grown hg7 E5.out.size (fun k hk => by injection hk with hk; omega))
    have hR5 := R4.out.below B5.out
    have hR7 : RawsAt w7 w.heap.size (some ⟨b, off, none⟩) c (L.eraseIdx i) := ⟨hR5.own.kept hg7 (.inr (fun e => hbne (Option.some.inj e))), fun q hq => (hR5.each q hq).blk X5.out (by decide) (by decide) hg7⟩
    obtain ⟨p', hp'⟩ : ∃ p' : HRaw × RawV, (p.1, (⟨nameM r.m other, r.fs⟩ : RawV)) = p' := ⟨_, rfl⟩
    have hqp : rawC p' = qc := by
     rw [← hp', ← hqc, ← Hpc.out]
     show (nameM r.m other).cells ++ [Value.slice p.1.a r.fs.length p.1.c] = (p.2.m.cells ++ [Value.slice p.1.a p.2.fs.length p.1.c]).set 0 _
     rw [Hpz.out]
     rfl
    have hP7 : RawAt w7 p' := by
     have h1 := (HP4.out.below B5.out).blk X5.out (by decide) (by decide) hg7
     obtain ⟨vs, hv⟩ := h1
     rw [Hpz.out] at hv
     rw [← hp']
     exact ⟨vs, hv⟩
    have hql : qc.length = 10 := by rw [← hqp]; rfl
    have hkle : k ≤ (L.eraseIdx i).length := by
     have h1 := atZ_le (Z.eraseIdx i) other
     rw [Hk.out, ← hge, List.length_map] at h1
     exact h1
    have hmi : ((L.eraseIdx i).insertIdx k p').map Prod.snd = (Z.eraseIdx i).insertIdx k ⟨nameM r.m other, r.fs⟩ := by
     have h1 : k ≤ (Z.eraseIdx i).length := by rw [← hge, List.length_map]; exact hkle
     rw [ins_eq p' _ k hkle, ins_eq _ _ k h1, List.map_append, List.map_cons, List.map_take, List.map_drop, hge, ← hp']
    have hlen : ((L.eraseIdx i).insertIdx k p').length = n := by rw [List.length_insertIdx, if_pos hkle, hel]; omega
    have hok := rename_ok HRs.out Hr.out Hion.out Hat2.out
    rw [Hk.out] at hok
    have HIn := hid (show ∀ w8, Below w7.heap.size w7 w8 → Calls Tryz.prog 93 #[.slice (some ⟨b, off, none⟩) (n - 1) c, .int .i64 k, .slice (some ⟨w8.heap.size, 0, none⟩) 1 1] (w8.alloc (.cells qc.toArray 149)) (fun e w' => ∃ A' c', e = .returned (.slice A' n c') ∧ RawsAt w' w.heap.size A' c' ((L.eraseIdx i).insertIdx k p') ∧ Below w.heap.size (w8.alloc (.cells qc.toArray 149)) w') from fun w8 hb8 => by
     have hz8 := hb8.size
     have hz7 := E7.out.size
     have hb1w : b < w8.heap.size := by
      have h7 : w2.heap.size < w7.heap.size := X7.out.lt
      have := B2.out.size
      omega
     have h := ins_any (L.eraseIdx i) (some ⟨b, off, none⟩) c k w.heap.size (w8.alloc (.cells qc.toArray 149)) hkle (by omega) (by simp; omega) ((hR7.below hb8).below (bnew w8 _)) p' ((hP7.below hb8).below (bnew w8 _)) w8.heap.size 1 qc.toArray (heap_alloc_new w8 _) (by rw [List.toList_toArray, List.take_of_length_le (by omega), hqp]) (fun j hj => by
      have hj : some b = some j := hj
      injection hj with hj
      omega)
     rw [hel] at h
     refine h.mono ?_
     rintro e w' ⟨A', c', he, h1, h2, -, -⟩
     rw [show n - 1 + 1 = n by omega] at he
     exact ⟨A', c', he, h1, h2⟩)
    have HBd := hid (show ∀ W A' c', RawsAt W w.heap.size A' c' ((L.eraseIdx i).insertIdx k p') → Calls Tryz.prog 92 #[.int .i64 size, .slice A' n c'] W (ImageP W size ((Z.eraseIdx i).insertIdx k ⟨nameM r.m other, r.fs⟩)) from fun W A' c' hW => by
     have h := build_ok size ((L.eraseIdx i).insertIdx k p') A' c' w.heap.size W (by rw [hmi]; exact hok) hW
     rw [hmi, hlen] at h
     exact h)
    have HE9 := hid (show ∀ w8 w9, Below w7.heap.size w7 w8 → Below w.heap.size (w8.alloc (.cells qc.toArray 149)) w9 → Below w.heap.size w w9 from fun w8 w9 h1 h2 => (bnext (bnext E7.out h1) (bnew w8 _)).trans h2)
    have HF := hid (show ∀ e w', ImageP w size ((Z.eraseIdx i).insertIdx k ⟨nameM r.m other, r.fs⟩) e w' → RenameP w size Z name other e w' from fun e w' h => ⟨fun h => (by rw [Hat.out] at h; cases h), fun _ h => (by rw [Hion.out] at h; cases h), fun _ _ h => (by rw [Hie.out, Hat2.out] at h; cases h), fun q _ hq _ _ => by
     rw [Hie.out, Hr.out] at hq
     injection hq with hq
     rw [Hie.out, Hk.out, ← hq]
     exact h⟩)
    have HFq := hid (show (Tryz.prog.info? 149).map (·.size) = some qc.toArray.size by rw [List.size_toArray, hql]; exact inf_raw)
    have Hqs := hid (show qc.toArray.size = 10 by rw [List.size_toArray, hql])
    have HS7 := hid (fun (z : GW w7) => HSz.out z.1 (bnext E7.out z.2))
    have x5 : ∀ z : GW w7, z.1.heap[w2.heap.size]? = some (.cells qc.toArray 149 (0, 0)) := fun z => hkeep X7.out z.2
    have X7h := hid (show w7.heap[w2.heap.size]? = some (.cells qc.toArray 149 (0, 0)) from X7.out)
    clear x5
    clear hqc hg7 hwge hR5 hR7 hp' hqp hP7 hql hkle hmi hlen hok hge hel hb1' hbne HX2
    go_wp2_with fail
    refine wp_region_any (by kernel_rfl) ?_
    change wpAny _ _ _ _ _ _ _ (World.drew _)
    obtain ⟨w8, hw8⟩ : ∃ w8, w7.drew = w8 := ⟨_, rfl⟩
    have B8 := hid (show Below w7.heap.size w7 w8 by rw [← hw8]; exact (Below.refl w7.heap.size w7).drew)
    have X8 := hid (hkeep X7h.out B8.out)
    have HS8 := hid (HSz.out w8 (bnext E7.out B8.out))
    have HS8b := hid (HSz.out (w8.alloc (.cells qc.toArray 149)) (bnext (bnext E7.out B8.out) (bnew w8 _)))
    rw [hw8]
    clear hw8
    refine wpAny_take (i := 0) (v := ?_) rfl (by kernel_rfl) (by kernel_rfl) (by kernel_rfl) (fun _ _ _ h => h) (Or.inl ⟨by rfl, ?_⟩) ?_
    rotate_left
    ·intro w; go_simp; try (with_reducible rfl)
    simp only [Act.put, List.getElem_toArray, List.getElem_cons_zero, List.setIfInBounds_toArray, List.set_cons_succ, List.set_cons_zero]
    refine wpAny_take (i := 2) (v := ?_) rfl (by kernel_rfl) (by kernel_rfl) (by kernel_rfl) (fun _ _ _ h => h) (Or.inl ⟨by rfl, ?_⟩) ?_
    rotate_left
    ·intro w; go_simp; try (with_reducible rfl)
    simp only [Act.put, List.getElem_toArray, List.getElem_cons_succ, List.getElem_cons_zero, List.setIfInBounds_toArray, List.set_cons_succ, List.set_cons_zero]
    refine wpAny_take (i := 3) (v := ?_) rfl (by kernel_rfl) (by kernel_rfl) (by kernel_rfl) (fun _ _ _ h => h) (Or.inl ⟨by rfl, ?_⟩) ?_
    rotate_left
    ·intro w; go_simp; try (with_reducible rfl)
    simp only [Act.put, List.getElem_toArray, List.getElem_cons_succ, List.getElem_cons_zero, List.setIfInBounds_toArray, List.set_cons_succ, List.set_cons_zero]
    refine wpAny_ready (rs := [1, 4]) (by kernel_rfl) (by simp) ?_
    refine AllReady.cons rfl (fun K hK => ?_) (AllReady.cons rfl (fun K hK => ?_) AllReady.nil)
    ·go_simp
     go_wp2_with (go_at_call 51; refine HS8.out.mono ?_; rintro e w' ⟨rfl, rfl⟩)
     refine wpAny_ready (rs := [4]) (by kernel_rfl) (by simp) ?_
     refine AllReady.cons rfl (fun K hK => ?_) AllReady.nil
     refine wp_load_row 149 (.tmp 11) rfl w2.heap.size rfl 149 qc.toArray _ _ X8.out Tryz.underlying149 rfl HFq.out ?_
     refine hK _ _ ?_
     clear hK K
     simp only [Act.put, List.getElem_toArray, List.getElem_cons_succ, List.getElem_cons_zero, List.setIfInBounds_toArray, List.set_cons_succ, List.set_cons_zero]
     refine wpAny_ready (rs := [5]) (by kernel_rfl) (by simp) ?_
     refine AllReady.cons rfl (fun K hK => ?_) AllReady.nil
     refine wp_build_one 145 149 (.tmp 53) rfl i0 z0 10 Tryz.underlying145 hi hz0 hi1 (by omega) (by omega) qc.toArray rfl Hqs.out ?_
     refine hK _ _ ?_
     clear hK K
     simp only [Act.put, List.getElem_toArray, List.getElem_cons_succ, List.getElem_cons_zero, List.setIfInBounds_toArray, List.set_cons_succ, List.set_cons_zero]
     have HI9 := hid (HIn.out w8 B8.out)
     refine wpAny_ready (rs := [6]) (by kernel_rfl) (by simp) ?_
     refine AllReady.cons rfl (fun K hK => ?_) AllReady.nil
     go_simp
     go_wp2_with (go_at_call 93; refine HI9.out.mono ?_; rintro e w9 ⟨A9, c9, rfl, hr9, hb9⟩)
     have HBu := hid (HBd.out w9 A9 c9 hr9)
     have E9 := hid (HE9.out w8 w9 B8.out hb9)
     clear hr9 hb9 HI9
     refine wpAny_ready (rs := [7]) (by kernel_rfl) (by simp) ?_
     refine AllReady.cons rfl (fun K hK => ?_) AllReady.nil
     go_simp
     go_wp2_with (go_at_call 92; refine HBu.out.mono ?_; rintro e w10 hI; have HI := hid (ImageP.later E9.out hI); obtain ⟨_, g4, rfl, _, _, _⟩ := hI)
     refine wpAny_take (i := 8) (v := ?_) rfl (by kernel_rfl) (by kernel_rfl) (by kernel_rfl) (fun _ _ _ h => h) (Or.inl ⟨by rfl, ?_⟩) ?_
     rotate_left
     ·intro w; go_simp; try (with_reducible rfl)
     simp only [Act.put, List.getElem_toArray, List.getElem_cons_succ, List.getElem_cons_zero, List.setIfInBounds_toArray, List.set_cons_succ, List.set_cons_zero]
     refine wpAny_take (i := 9) (v := ?_) rfl (by kernel_rfl) (by kernel_rfl) (by kernel_rfl) (fun _ _ _ h => h) (Or.inl ⟨by rfl, ?_⟩) ?_
     rotate_left
     ·intro w; go_simp; try (with_reducible rfl)
     simp only [Act.put, List.getElem_toArray, List.getElem_cons_succ, List.getElem_cons_zero, List.setIfInBounds_toArray, List.set_cons_succ, List.set_cons_zero]
     refine wpAny_take (i := 10) (v := ?_) rfl (by kernel_rfl) (by kernel_rfl) (by kernel_rfl) (fun _ _ _ h => h) (Or.inl ⟨by rfl, ?_⟩) ?_
     rotate_left
     ·intro w; go_simp; try (with_reducible rfl)
     simp only [Act.put, List.getElem_toArray, List.getElem_cons_succ, List.getElem_cons_zero, List.setIfInBounds_toArray, List.set_cons_succ, List.set_cons_zero]
     refine wpAny_take (i := 11) (v := ?_) rfl (by kernel_rfl) (by kernel_rfl) (by kernel_rfl) (fun _ _ _ h => h) (Or.inl ⟨by rfl, ?_⟩) ?_
     rotate_left
     ·intro w; go_simp; try (with_reducible rfl)
     simp only [Act.put, List.getElem_toArray, List.getElem_cons_succ, List.getElem_cons_zero, List.setIfInBounds_toArray, List.set_cons_succ, List.set_cons_zero]
     refine wpAny_done (by kernel_rfl) ?_ _
     go_wp2
     refine bodyPost_ret (results_tmp2 Tryz.results32 _ _ _) rfl ?_
     exact HF.out _ _ HI.out
    ·refine wp_load_row 149 (.tmp 11) rfl w2.heap.size rfl 149 qc.toArray _ _ X8.out Tryz.underlying149 rfl HFq.out ?_
     refine hK _ _ ?_
     clear hK K
     simp only [Act.put, List.getElem_toArray, List.getElem_cons_succ, List.getElem_cons_zero, List.setIfInBounds_toArray, List.set_cons_succ, List.set_cons_zero]
     refine wpAny_ready (rs := [1, 5]) (by kernel_rfl) (by simp) ?_
     refine AllReady.cons rfl (fun K hK => ?_) (AllReady.cons rfl (fun K hK => ?_) AllReady.nil)
     ·go_simp
      go_wp2_with (go_at_call 51; refine HS8.out.mono ?_; rintro e w' ⟨rfl, rfl⟩)
      refine wpAny_ready (rs := [5]) (by kernel_rfl) (by simp) ?_
      refine AllReady.cons rfl (fun K hK => ?_) AllReady.nil
      refine wp_build_one 145 149 (.tmp 53) rfl i0 z0 10 Tryz.underlying145 hi hz0 hi1 (by omega) (by omega) qc.toArray rfl Hqs.out ?_
      refine hK _ _ ?_
      clear hK K
      simp only [Act.put, List.getElem_toArray, List.getElem_cons_succ, List.getElem_cons_zero, List.setIfInBounds_toArray, List.set_cons_succ, List.set_cons_zero]
      have HI9 := hid (HIn.out w8 B8.out)
      refine wpAny_ready (rs := [6]) (by kernel_rfl) (by simp) ?_
      refine AllReady.cons rfl (fun K hK => ?_) AllReady.nil
      go_simp
      go_wp2_with (go_at_call 93; refine HI9.out.mono ?_; rintro e w9 ⟨A9, c9, rfl, hr9, hb9⟩)
      have HBu := hid (HBd.out w9 A9 c9 hr9)
      have E9 := hid (HE9.out w8 w9 B8.out hb9)
      clear hr9 hb9 HI9
      refine wpAny_ready (rs := [7]) (by kernel_rfl) (by simp) ?_
      refine AllReady.cons rfl (fun K hK => ?_) AllReady.nil
      go_simp
      go_wp2_with (go_at_call 92; refine HBu.out.mono ?_; rintro e w10 hI; have HI := hid (ImageP.later E9.out hI); obtain ⟨_, g4, rfl, _, _, _⟩ := hI)
      refine wpAny_take (i := 8) (v := ?_) rfl (by kernel_rfl) (by kernel_rfl) (by kernel_rfl) (fun _ _ _ h => h) (Or.inl ⟨by rfl, ?_⟩) ?_
      rotate_left
      ·intro w; go_simp; try (with_reducible rfl)
      simp only [Act.put, List.getElem_toArray, List.getElem_cons_succ, List.getElem_cons_zero, List.setIfInBounds_toArray, List.set_cons_succ, List.set_cons_zero]
      refine wpAny_take (i := 9) (v := ?_) rfl (by kernel_rfl) (by kernel_rfl) (by kernel_rfl) (fun _ _ _ h => h) (Or.inl ⟨by rfl, ?_⟩) ?_
      rotate_left
      ·intro w; go_simp; try (with_reducible rfl)
      simp only [Act.put, List.getElem_toArray, List.getElem_cons_succ, List.getElem_cons_zero, List.setIfInBounds_toArray, List.set_cons_succ, List.set_cons_zero]
      refine wpAny_take (i := 10) (v := ?_) rfl (by kernel_rfl) (by kernel_rfl) (by kernel_rfl) (fun _ _ _ h => h) (Or.inl ⟨by rfl, ?_⟩) ?_
      rotate_left
      ·intro w; go_simp; try (with_reducible rfl)
      simp only [Act.put, List.getElem_toArray, List.getElem_cons_succ, List.getElem_cons_zero, List.setIfInBounds_toArray, List.set_cons_succ, List.set_cons_zero]
      refine wpAny_take (i := 11) (v := ?_) rfl (by kernel_rfl) (by kernel_rfl) (by kernel_rfl) (fun _ _ _ h => h) (Or.inl ⟨by rfl, ?_⟩) ?_
      rotate_left
      ·intro w; go_simp; try (with_reducible rfl)
      simp only [Act.put, List.getElem_toArray, List.getElem_cons_succ, List.getElem_cons_zero, List.setIfInBounds_toArray, List.set_cons_succ, List.set_cons_zero]
      refine wpAny_done (by kernel_rfl) ?_ _
      go_wp2
      refine bodyPost_ret (results_tmp2 Tryz.results32 _ _ _) rfl ?_
      exact HF.out _ _ HI.out
     ·refine wp_build_one 145 149 (.tmp 53) rfl i0 z0 10 Tryz.underlying145 hi hz0 hi1 (by omega) (by omega) qc.toArray rfl Hqs.out ?_
      refine hK _ _ ?_
      clear hK K
      simp only [Act.put, List.getElem_toArray, List.getElem_cons_succ, List.getElem_cons_zero, List.setIfInBounds_toArray, List.set_cons_succ, List.set_cons_zero]
      refine wpAny_ready (rs := [1]) (by kernel_rfl) (by simp) ?_
      refine AllReady.cons rfl (fun K hK => ?_) AllReady.nil
      go_simp
      go_wp2_with (go_at_call 51; refine HS8b.out.mono ?_; rintro e w' ⟨rfl, rfl⟩)
      have HI9 := hid (HIn.out w8 B8.out)
      refine wpAny_ready (rs := [6]) (by kernel_rfl) (by simp) ?_
      refine AllReady.cons rfl (fun K hK => ?_) AllReady.nil
      go_simp
      go_wp2_with (go_at_call 93; refine HI9.out.mono ?_; rintro e w9 ⟨A9, c9, rfl, hr9, hb9⟩)
      have HBu := hid (HBd.out w9 A9 c9 hr9)
      have E9 := hid (HE9.out w8 w9 B8.out hb9)
      clear hr9 hb9 HI9
      refine wpAny_ready (rs := [7]) (by kernel_rfl) (by simp) ?_
      refine AllReady.cons rfl (fun K hK => ?_) AllReady.nil
      go_simp
      go_wp2_with (go_at_call 92; refine HBu.out.mono ?_; rintro e w10 hI; have HI := hid (ImageP.later E9.out hI); obtain ⟨_, g4, rfl, _, _, _⟩ := hI)
      refine wpAny_take (i := 8) (v := ?_) rfl (by kernel_rfl) (by kernel_rfl) (by kernel_rfl) (fun _ _ _ h => h) (Or.inl ⟨by rfl, ?_⟩) ?_
      rotate_left
      ·intro w; go_simp; try (with_reducible rfl)
      simp only [Act.put, List.getElem_toArray, List.getElem_cons_succ, List.getElem_cons_zero, List.setIfInBounds_toArray, List.set_cons_succ, List.set_cons_zero]
      refine wpAny_take (i := 9) (v := ?_) rfl (by kernel_rfl) (by kernel_rfl) (by kernel_rfl) (fun _ _ _ h => h) (Or.inl ⟨by rfl, ?_⟩) ?_
      rotate_left
      ·intro w; go_simp; try (with_reducible rfl)
      simp only [Act.put, List.getElem_toArray, List.getElem_cons_succ, List.getElem_cons_zero, List.setIfInBounds_toArray, List.set_cons_succ, List.set_cons_zero]
      refine wpAny_take (i := 10) (v := ?_) rfl (by kernel_rfl) (by kernel_rfl) (by kernel_rfl) (fun _ _ _ h => h) (Or.inl ⟨by rfl, ?_⟩) ?_
      rotate_left
      ·intro w; go_simp; try (with_reducible rfl)
      simp only [Act.put, List.getElem_toArray, List.getElem_cons_succ, List.getElem_cons_zero, List.setIfInBounds_toArray, List.set_cons_succ, List.set_cons_zero]
      refine wpAny_take (i := 11) (v := ?_) rfl (by kernel_rfl) (by kernel_rfl) (by kernel_rfl) (fun _ _ _ h => h) (Or.inl ⟨by rfl, ?_⟩) ?_
      rotate_left
      ·intro w; go_simp; try (with_reducible rfl)
      simp only [Act.put, List.getElem_toArray, List.getElem_cons_succ, List.getElem_cons_zero, List.setIfInBounds_toArray, List.set_cons_succ, List.set_cons_zero]
      refine wpAny_done (by kernel_rfl) ?_ _
      go_wp2
      refine bodyPost_ret (results_tmp2 Tryz.results32 _ _ _) rfl ?_
      exact HF.out _ _ HI.out
end Go.Proofs.YtgcfkblmnpnogaaGreatDoor

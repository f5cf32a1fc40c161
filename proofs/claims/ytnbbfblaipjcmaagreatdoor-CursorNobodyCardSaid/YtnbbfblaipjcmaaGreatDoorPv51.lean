/- DskA, CurB, DskB, CacA, CacB, CacC, CacD, CacE. Conditions: as each theorem states. -/
import Derived.Maps.OwnSet
import Derived.Test.YtnbbfblaipjcmaaGreatDoorPv04
import Derived.Test.YtnbbfblaipjcmaaGreatDoorPv46
import Derived.Test.YtnbbfblaipjcmaaGreatDoorPv19
import Derived.Test.YtnbbfblaipjcmaaGreatDoorPv48
import Derived.Test.YtnbbfblaipjcmaaGreatDoorPv17
set_option maxRecDepth 100000
set_option maxHeartbeats 16000000
namespace Go.Proofs.YtnbbfblaipjcmaaGreatDoor
section
open Go.RowKit Go.Lib
structure OnlyIn (S:List Nat) (w w':World):Prop where
 os:w'.os=w.os
 tape:w'.tape=w.tape
 output:w'.output=w.output
 size:w.heap.size<=w'.heap.size
 block:∀ j,j < w.heap.size->j ∉ S->w'.heap[j]? = w.heap[j]?
theorem OnlyIn.refl (S:List Nat) (w:World):OnlyIn S w w:=⟨rfl,rfl,rfl,Nat.le_refl _,fun _ _ _=>rfl⟩
theorem OnlyIn.trans {S:List Nat} {a b c:World} (h:OnlyIn S a b) (k:OnlyIn S b c):OnlyIn S a c :=
 ⟨k.os.trans h.os,k.tape.trans h.tape,k.output.trans h.output,Nat.le_trans h.size k.size,fun j h1 h2=>(k.block j (Nat.lt_of_lt_of_le h1 h.size) h2).trans (h.block j h1 h2)⟩
theorem OnlyIn.of_grown {S:List Nat} {w w':World} {g:Nat} (h:w.grownBy w' (some g)) (hg:g ∈ S):OnlyIn S w w' :=
 ⟨h.os,h.tape,h.output,h.size,fun j h1 h2=>h.block j h1 (fun e=>h2 (Option.some.inj e ▸ hg))⟩
theorem OnlyIn.of_below (S:List Nat) {w w':World} (h:Below w.heap.size w w'):OnlyIn S w w':=by
 have hg:=grownBy_below (World.grownBy.refl w none) h
 exact ⟨hg.os,hg.tape,hg.output,hg.size,fun j h1 _=>hg.block j h1 (by simp)⟩
theorem OnlyIn.more {S T:List Nat} {w w':World} (h:OnlyIn S w w') (hs:∀ x ∈ S,x ∈ T):OnlyIn T w w':=⟨h.os,h.tape,h.output,h.size,fun j h1 h2=>h.block j h1 (fun e=>h2 (hs j e))⟩
theorem OnlyIn.heap {S:List Nat} {w w':World} (h:OnlyIn S w w') {g:Nat} {o:Obj} (hg:w.heap[g]? = some o) (hs:g ∉ S):w'.heap[g]? = some o:=(h.block g (hlt hg) hs).trans hg
theorem OnlyIn.cell {S:List Nat} {w w':World} (h:OnlyIn S w w') {p:Addr} {v:Value} (hc:w.cell? p=some v) (hp:p.block < w.heap.size) (hs:p.block ∉ S):w'.cell? p=some v:=(World.cell?_of_block (h.block p.block hp hs)).trans hc
theorem OnlyIn.row {S:List Nat} {w w':World} (h:OnlyIn S w w') {A:Option Addr} {vs:List Value} (hr:Row w w.heap.size A vs) (hs:∀ ad,A=some ad->ad.block ∉ S):Row w' w'.heap.size A vs:=fun i v hv=>by
 obtain ⟨b,off,ha,hb,hc⟩:=hr i v hv
 exact ⟨b,off,ha,Nat.lt_of_lt_of_le hb h.size,h.cell hc hb (show b ∉ S from hs ⟨b,off,none⟩ ha)⟩
def DiskAt (w:World) (g:Nat) (bs:List Nat) (rd:Int) (Ai:Option Addr) (gm:Nat):Prop :=
 (∃ ci,w.heap[g]? = some (.cells #[.slice Ai bs.length ci,.map (some gm),.int .i64 rd,.int .i64 0] 232 (0,0))/\bs.length<=ci/\ci<=9223372036854775807)/\Row w w.heap.size Ai (u8s bs)/\w.heap[gm]? = some (.map #[] 0)
theorem DiskAt.later {w w':World} {g:Nat} {bs:List Nat} {rd:Int} {Ai:Option Addr} {gm:Nat} (h:DiskAt w g bs rd Ai gm) (hb:Below w.heap.size w w'):DiskAt w' g bs rd Ai gm:=by
 obtain ⟨⟨ci,h1,h2,h3⟩,h4,h5⟩:=h
 exact ⟨⟨ci,aF h1 hb,h2,h3⟩,h4.later hb,(hb.block gm (hlt h5)).trans h5⟩
theorem aBL (gm:Nat) (W:World):(binOp .eql 230 (.map (some gm)) (.map none)).run Tryz.prog W=.ok (.bool false) W:=by kernel_rfl
theorem vZ (w:World) (g:Nat) (bs:List Nat) (rd:Int) (Ai:Option Addr) (gm:Nat) (h:DiskAt w g bs rd Ai gm):Calls Tryz.prog 144 #[.pointer (some ⟨g,0,none⟩)] w fun e w'=>e=.returned (.bool false)/\w=w':=by
 obtain ⟨⟨ci,h1,_,_⟩,_,_⟩:=h
 have c1:w.cell? ⟨g,1,none⟩=some (.map (some gm)):=(cell_of_row _ _ _ _ _ _ h1).trans rfl
 have bn:=fun W=>aBL gm W
 clear h1
 go_enter Tryz.func144,Tryz.ntmps144
 go_wp2
 go_ret
 exact ⟨rfl,rfl⟩
theorem tL (w:World) (g:Nat) (bs:List Nat) (rd:Int) (Ai:Option Addr) (gm:Nat) (h:DiskAt w g bs rd Ai gm) (hl:bs.length<=4194304):Calls Tryz.prog 104 #[.pointer (some ⟨g,0,none⟩)] w fun e w'=>e=.returned (.int .i64 ((bs.length+63) / 64:Nat))/\w=w':=by
 have HN:=Lib.hid (vZ w g bs rd Ai gm h)
 obtain ⟨⟨ci,h1,_,_⟩,_,_⟩:=h
 have c0:w.cell? ⟨g,0,none⟩=some (.slice Ai bs.length ci):=(cell_of_row _ _ _ _ _ _ h1).trans rfl
 obtain ⟨n,hn⟩:∃ n,bs.length=n:=⟨_,rfl⟩
 rw [hn] at hl c0 ⊢
 obtain ⟨q,hq⟩:∃ q,(n+63) / 64=q:=⟨_,rfl⟩
 rw [hq]
 have e1:(n:Int)+64 - 1=((n+63:Nat):Int):=by push_cast; omega
 have hquo:((n:Int)+64 - 1).tdiv 64=(q:Int):=by rw [e1,<-hq]; rfl
 have hw:IntKind.i64.wrap (q:Int)=(q:Int):=IntWalk.i64_in _ (by omega)
 clear h1 hn e1 hq
 go_enter Tryz.func104,Tryz.ntmps104
 go_wp2_with (go_at_call 144; refine HN.out.mono ?_; rintro e w2 ⟨rfl,rfl⟩)
 go_ret
 exact ⟨rfl,rfl⟩
theorem OA (w:World) (g:Nat) (bs:List Nat) (rd:Int) (Ai:Option Addr) (gm:Nat) (p:Int) (h:DiskAt w g bs rd Ai gm) (hl:bs.length<=4194304):Calls Tryz.prog 143 #[.pointer (some ⟨g,0,none⟩),.int .i64 p] w fun e w'=>e=.returned (.int .i64 (if p < 0\/((bs.length+63) / 64:Nat)<=p then 5 else 0))/\w=w':=by
 have HN:=Lib.hid (vZ w g bs rd Ai gm h)
 have HP:=Lib.hid (tL w g bs rd Ai gm h hl)
 generalize (bs.length+63) / 64=q at *
 clear h hl
 by_cases h1:p < 0
 ·rw [if_pos (.inl h1)]
  go_enter Tryz.func143,Tryz.ntmps143
  go_wp2_with (first | (go_at_call 144; refine HN.out.mono ?_; rintro e w2 ⟨rfl,rfl⟩) | (go_at_call 104; refine HP.out.mono ?_; rintro e w2 ⟨rfl,rfl⟩))
  go_ret
  exact ⟨rfl,rfl⟩
 ·by_cases h2:(q:Int)<=p
  ·rw [if_pos (.inr h2)]
   go_enter Tryz.func143,Tryz.ntmps143
   go_wp2_with (first | (go_at_call 144; refine HN.out.mono ?_; rintro e w2 ⟨rfl,rfl⟩) | (go_at_call 104; refine HP.out.mono ?_; rintro e w2 ⟨rfl,rfl⟩))
   go_ret
   exact ⟨rfl,rfl⟩
  ·rw [if_neg (by omega)]
   go_enter Tryz.func143,Tryz.ntmps143
   go_wp2_with (first | (go_at_call 144; refine HN.out.mono ?_; rintro e w2 ⟨rfl,rfl⟩) | (go_at_call 104; refine HP.out.mono ?_; rintro e w2 ⟨rfl,rfl⟩))
   go_ret
   exact ⟨rfl,rfl⟩
def iD (bs:List Nat) (p:Nat):List Nat:=cA bs (64*p) 64
theorem ZK {w:World} {b:Nat} (hb:w.heap[b]? = some (.map #[] 0)) (i:Int) (h1:0<=i) (h2:i<=1000000):(Instr.lookup 230 (.map (some b)) (.int .i64 i) true).run Tryz.prog w=.ok (.tuple #[.agg #[.int .i64 0,.int .i64 0,.int .u8 0],.bool false]) w:=by
 have K:=Go.Maps.int_keyed (P:=Tryz.prog) (k:=3) Tryz.underlying3
 have hz:(zeroValue 245).run Tryz.prog w=.ok (.agg #[.int .i64 0,.int .i64 0,.int .u8 0]) w:=by kernel_rfl
 have hkey:=Go.Maps.keyOf_int_mk (P:=Tryz.prog) (k:=3) Tryz.underlying3 (WalkArith.wf_i64 (n:=i) (by omega))
 rcases K.find w hkey [] nofun with ⟨h3,_⟩ | ⟨j,e0,_,h4,_⟩
 ·simp [Instr.lookup,run_underlying Tryz.underlying230,MapKept.run_getObj_map hb,K.check w _ hkey,h3,hz,Result.andThen]
 ·simp at h4
end
section
open Go.RowKit Go.Lib
def b9 (f:FrameV):List Value:=(cD f ++ f.gains).map (Value.int .i64)
theorem NL {s g:List Int} (hs:s.length=16) (hg:g.length=4):Tryz.prog.built 93 [(0,aT s),(1,aT g)]=some ((s ++ g).map (Value.int .i64)).toArray:=by
 obtain ⟨g0,g1,g2,g3,rfl⟩:=sP hg
 obtain ⟨a0,a1,a2,a3,a4,a5,a6,a7,a8,a9,b0,b1,b2,b3,b4,b5,rfl⟩:=vD hs
 kernel_rfl
theorem o4:(Tryz.prog.info? 93).map (·.size)=some 20:=by kernel_rfl
theorem AI (f:FrameV):(cD f).length=16:=i7 f
theorem qI {f:FrameV} (h:f.Len):(b9 f).length=20:=by unfold b9; rw [List.length_map,List.length_append,AI,h.g]
theorem qJ (f:FrameV):∀ v ∈ b9 f,v.oneCell'=true:=fun v hv=>by
 unfold b9 at hv
 obtain ⟨x,_,rfl⟩:=List.mem_map.1 hv
 rfl
theorem WG (f:FrameV) (A:Option Addr) (c:Nat) (w:World) (h:RightF f) (hr:Row w w.heap.size A (aW f.tones)) :
  Calls Tryz.prog 187 #[.agg (aY f (.slice A f.tones.length c))] w fun e w'=>e=.returned (.agg (b9 f).toArray)/\Below w.heap.size w w':=by
 have HSp:=hid (fun W (hW:Below w.heap.size w W)=>KI f A c W h (hr.later hW))
 have HBu:=hid (NL (AI f) h.len.g)
 have hpl:=qI h.len
 have HPo:=hid (qJ f)
 have HPa:=hid (show (b9 f).toArray.all (·.oneCell')=true by
  rw [Array.all_eq_true_iff_forall_mem]
  intro v hv
  exact HPo.out v (by simpa using hv))
 have HFp:=hid (show (Tryz.prog.info? 93).map (·.size)=some (b9 f).toArray.size by rw [List.size_toArray,hpl]; exact o4)
 have HPs:=hid (show (b9 f).toArray.size=20 by rw [List.size_toArray,hpl])
 have hfs:=fJ h.len (.slice A f.tones.length c)
 have HFf:=hid (show (Tryz.prog.info? 50).map (·.size)=some (aY f (.slice A f.tones.length c)).size by rw [hfs]; exact bX)
 have hgl:(f.gains.map (Value.int .i64)).length=4:=by simp [h.gains.1]
 have HF4:=hid (show (Tryz.prog.info? 45).map (·.size)=some (f.gains.map (Value.int .i64)).length by rw [hgl]; exact bY)
 have HGa:=hid (fun j v (hv:(f.gains.map (Value.int .i64))[j]? = some v)=>zM h.len (.slice A f.tones.length c) hv)
 have hpc:b9 f=(cD f ++ f.gains).map (Value.int .i64):=rfl
 rw [<-hpc] at HBu
 unfold aT at HBu HSp
 obtain ⟨fc,hfc⟩:∃ fc,aY f (.slice A f.tones.length c)=fc:=⟨_,rfl⟩
 rw [hfc] at HSp HFf HGa ⊢
 generalize b9 f=pl at *
 generalize (cD f).map (Value.int .i64)=sv at *
 generalize f.gains.map (Value.int .i64)=gl at *
 obtain ⟨w1,hw1⟩:∃ w1,w.alloc (.cells fc 50)=w1:=⟨_,rfl⟩
 obtain ⟨w2,hw2⟩:∃ w2,w1.alloc (.cells #[.int .i64 0,.int .i64 0,.int .i64 0,.int .i64 0,.int .i64 0,.int .i64 0,.int .i64 0,.int .i64 0,.int .i64 0,.int .i64 0,.int .i64 0,.int .i64 0,.int .i64 0,.int .i64 0,.int .i64 0,.int .i64 0,.int .i64 0,.int .i64 0,.int .i64 0,.int .i64 0] 93)=w2:=⟨_,rfl⟩
 have hz1:w1.heap.size=w.heap.size+1:=by rw [<-hw1]; simp
 have B2:=hid (show Below w.heap.size w w2 by rw [<-hw2,<-hw1]; exact aC (aL w _) (aL _ _))
 have F2:=hid (show w2.heap[w.heap.size]? = some (.cells fc 50 (0,0)) by rw [<-hw2]; exact aF (by rw [<-hw1]; exact heap_alloc_new w _) (aL w1 _))
 have P2:=hid (show w2.heap[w.heap.size+1]? = some (.cells #[.int .i64 0,.int .i64 0,.int .i64 0,.int .i64 0,.int .i64 0,.int .i64 0,.int .i64 0,.int .i64 0,.int .i64 0,.int .i64 0,.int .i64 0,.int .i64 0,.int .i64 0,.int .i64 0,.int .i64 0,.int .i64 0,.int .i64 0,.int .i64 0,.int .i64 0,.int .i64 0] 93 (0,0)) by rw [<-hw2,<-hz1]; exact heap_alloc_new w1 _)
 clear hpl hfs hgl hpc hfc h hr
 go_enter Tryz.func187,Tryz.ntmps187
 go_wp2_with fail
 have P0:=fC F2.out
 have HG0:=hid (fun w' (hC:∃ x:GW w2,w'=x.1) j v (hv:gl[j]? = some v)=>(show w'.cell? ⟨w.heap.size,0+j,none⟩=some v by
  obtain ⟨x,rfl⟩:=hC
  exact (cell_of_row _ _ _ _ _ _ (aF F2.out x.2)).trans (HGa.out j v hv)))
 have HS2:=hid (fun (z:GW w2)=>HSp.out z.1 (aC B2.out z.2))
 refine aI 4 (by kernel_rfl) (by kernel_rfl) ?_
 simp only [List.take_succ_cons,List.take_zero,List.drop_succ_cons,List.drop_zero]
 repeat (first | (go_big_quiet_want; refine bO 50 (.tmp 1) rfl w.heap.size rfl _ fc _ _ P0 Tryz.underlying50 rfl HFf.out ?_; go_simp; go_big_quiet_on) | (go_big_quiet_want; refine bA 45 (.tmp 5) rfl w.heap.size 0 rfl gl _ HG0.out Tryz.underlying45 rfl HF4.out ?_; go_simp; go_big_quiet_on) | go_big_quiet_step ((go_at_call 160; exact bZ (HS2.out _))))
 refine wpQuiet_nil ?_
 intro w3 hw'
 have B3:=hid (aC B2.out (aK hw'))
 have P3:=hid (aF P2.out (aK hw'))
 clear hw' P0
 go_wp2_with (first | (refine cX rfl 93 _ rfl pl.toArray (by simpa [Act.eval] using HBu.out) ?_) | (refine aA rfl 93 (.tmp 2) (.tmp 7) rfl (w.heap.size+1) rfl _ _ pl.toArray rfl P3.out HFp.out (by rw [HPs.out]; rfl) HPa.out ?_))
 refine bodyPost_ret (v:=.agg pl.toArray) (results_cell_row Tryz.results187 _ _ (w.heap.size+1) 93 pl.toArray (0,0) _ rfl (bB _ _ _ _ pl.toArray P3.out) Tryz.underlying93 rfl HFp.out) rfl ?_
 exact ⟨rfl,aO B3.out _ (by omega) _⟩
end
section
open Go.RowKit Go.Lib
def MQ (w:World) (bs:List Nat) (e:Ending) (w':World):Prop:=∃ gd Ai gm,e=.returned (.tuple #[.pointer (some ⟨gd,0,none⟩),.int .i64 0])/\DiskAt w' gd bs 0 Ai gm/\w.heap.size<=gd/\w.heap.size<=gm/\gm < gd/\(∀ ad,Ai=some ad->w.heap.size<=ad.block/\ad.block < gm)/\Below w.heap.size w w'
theorem N9 (bs:List Nat) (A:Option Addr) (cap:Nat) (w:World) (hl:bs.length<=4194304) (hr:Row w w.heap.size A (u8s bs)) :
  Calls Tryz.prog 76 #[.slice A bs.length cap] w (MQ w bs):=by
 obtain ⟨i0,hi,hz0,hi1,hi2⟩:=info_parts rS
 have Hr:=hid hr
 have H1:=hid (qS bs)
 have Hul:=hid (show (u8s bs).length=bs.length from by unfold u8s; exact List.length_map _)
 have hmm:=@run_makeMap Tryz.prog
 obtain ⟨n,hn⟩:∃ n,bs.length=n:=⟨_,rfl⟩
 have HD:=hid (show ∀ e w',(∃ gd Ai gm,e=.returned (.tuple #[.pointer (some ⟨gd,0,none⟩),.int .i64 0])/\DiskAt w' gd bs 0 Ai gm/\w.heap.size<=gd/\w.heap.size<=gm/\gm < gd/\(∀ ad,Ai=some ad->w.heap.size<=ad.block/\ad.block < gm)/\Below w.heap.size w w')->MQ w bs e w' from fun _ _ h=>h)
 generalize MQ w bs=DP at *
 rw [hn] at hl Hul ⊢
 have Hn:=hid hn
 have t1:¬ ((4194304:Int) < (n:Int)):=by omega
 clear hr hn
 go_enter Tryz.func76,Tryz.ntmps76
 go_wp2_with (at_builtin; refine c9 _ rfl (.const (.slice none 0 0)) (.tmp 7) 30 rfl w.heap.size 5 i0 (.int .u8 0) 1 1 Tryz.underlying30 hi hz0 hi1 hi2 rfl (by omega) (.slice none 0 0) 0 [] rfl (World.ownsRow_nil _ _ _ _) w.heap.size A n cap (u8s bs) rfl (by rw [Hul.out]; omega) Hr.out H1.out (by omega) (by omega) (Nat.le_refl _) ?_; intro A2 c2 w2 hown2 hgrow hat hcc)
 rw [Nat.zero_add] at hown2 hcc
 rw [List.nil_append] at hown2
 have hb2:Below w.heap.size w w2:=(Below.refl _ _).grown hgrow (Nat.le_refl _) (fun k hk=>by cases hk)
 have hz:(w2.alloc (.map #[] 0)).heap.size=w2.heap.size+1:=by simp
 have hm:(w2.alloc (.map #[] 0)).heap[w2.heap.size]? = some (.map #[] 0):=heap_alloc_new w2 _
 have hd:=heap_alloc_new (w2.alloc (.map #[] 0)) (.cells #[.slice A2 n c2,.map (some w2.heap.size),.int .i64 0,.int .i64 0] 232)
 rw [hz] at hd
 have hrow:=(((Row.of_own hown2).later (aL w2 (.map #[] 0)))).later (aL _ (.cells #[.slice A2 n c2,.map (some w2.heap.size),.int .i64 0,.int .i64 0] 232))
 refine HD.out _ _ ⟨w2.heap.size+1,A2,w2.heap.size,rfl,⟨⟨c2,by rw [Hn.out]; exact hd,by rw [Hn.out]; exact hcc,iY hown2⟩,hrow,(heap_alloc_old _ _ (hlt hm)).trans hm⟩,by have:=hb2.size; omega,hb2.size,Nat.lt_succ_self _,fun ad had=>?_,aC (aC hb2 (aL _ _)) (aL _ _)⟩
 rcases hown2.2 with ⟨hv0,_⟩ | ⟨g',cap',cur,hv0,hbg,hg,_⟩
 ·injection hv0 with e1
  rw [had] at e1
  cases e1
 ·injection hv0 with e1
  rw [had] at e1
  injection e1 with e1
  rw [e1]
  exact ⟨hbg,hlt hg⟩
def aDq (w:World) (gd:Nat) (bs:List Nat) (rd:Int) (Ai:Option Addr) (gm:Nat) (p:Nat) (e:Ending) (w':World):Prop :=
 ∃ gb,e=.returned (.tuple #[.slice (some ⟨gb,0,none⟩) 64 64,.int .i64 0])/\w.heap.size<=gb/\Blk w' gb 5 (u8s (iD bs p))/\DiskAt w' gd bs (rd+1) Ai gm/\OnlyIn [gd] w w'
theorem KZ (w:World) (g:Nat) (bs:List Nat) (rd:Int) (Ai:Option Addr) (gm:Nat) (p:Nat) (h:DiskAt w g bs rd Ai gm) (hl:bs.length<=4194304) (hp:p*64+64<=bs.length) (hA:∀ ad,Ai=some ad->ad.block ≠ g) (hgm:gm ≠ g) (hb:Byt bs) (hrd:0<=rd/\rd<=4000000000000000) :
  Calls Tryz.prog 184 #[.pointer (some ⟨g,0,none⟩),.int .i64 p] w (aDq w g bs rd Ai gm p):=by
 have HW:=hid (OA w g bs rd Ai gm p h hl)
 rw [if_neg (by omega)] at HW
 obtain ⟨⟨ci,h1,h2,h3⟩,h4,h5⟩:=h
 obtain ⟨n,hn⟩:∃ n,bs.length=n:=⟨_,rfl⟩
 rw [hn] at hl hp h1 h2
 have Hn:=hid hn
 obtain ⟨b0,hb0⟩:∃ b0,bs[0]? = some b0:=⟨_,List.getElem?_eq_getElem (by omega)⟩
 obtain ⟨bi,oi,rfl,hbi,_⟩:=h4 0 _ (d9 hb0)
 have H1:=hid h1
 have H4:=hid h4
 have H5:=hid h5
 have HX:=hid (show Blk w g 232 [.slice (some ⟨bi,oi,none⟩) n ci,.map (some gm),.int .i64 rd,.int .i64 0] from h1)
 obtain ⟨w1,hw1⟩:∃ w1,w.setCell ⟨g,2,none⟩ (.int .i64 (rd+1))=w1:=⟨_,rfl⟩
 have hg1:w.grownBy w1 (some g):=by rw [<-hw1]; exact grownBy_setB (World.grownBy.refl _ _) _ _
 have X1:=hid (show Blk w1 g 232 [.slice (some ⟨bi,oi,none⟩) n ci,.map (some gm),.int .i64 (rd+1),.int .i64 0] by rw [<-hw1]; exact HX.out.set_ 2 _)
 have O1:=hid (OnlyIn.of_grown hg1 (List.mem_singleton.2 rfl))
 have L1:=hid (ZK (O1.out.heap h5 (by simpa using hgm)) p (by omega) (by omega))
 have R1:=hid (O1.out.row h4 (fun ad had=>by simpa using hA ad had))
 have M1:=hid (O1.out.heap h5 (by simpa using hgm))
 have c2:=HX.out.cell 2
 have f2:=HX.out.frozen 2
 have d1:=X1.out.cell 1
 have l1:=L1.out
 have hwr:IntKind.i64.wrap (rd+1)=rd+1:=IntWalk.i64_in _ (by omega)
 have hrd2:rd+1<=4000000000000001:=by omega
 obtain ⟨i0,hi,hz0,hi1,hi2⟩:=info_parts rS
 obtain ⟨w2,hw2⟩:∃ w2,w1.alloc (.cells #[.int .i64 0,.int .i64 0,.int .u8 0] 245)=w2:=⟨_,rfl⟩
 have hz2:w2.heap.size=w1.heap.size+1:=by rw [<-hw2]; simp
 have B2:=hid (show Below w1.heap.size w1 w2 by rw [<-hw2]; exact aL w1 _)
 have F2:=hid (show Blk w2 w1.heap.size 245 [.int .i64 0,.int .i64 0,.int .u8 0] by rw [<-hw2]; exact Blk.new w1 _ _)
 obtain ⟨w3,hw3⟩:∃ w3,w2.alloc (.cells (madeCells (Value.int .u8 0).cells (64*1)) 5)=w3:=⟨_,rfl⟩
 have B3:=hid (show Below w2.heap.size w2 w3 by rw [<-hw3]; exact aL w2 _)
 have hmz:(madeCells (Value.int .u8 0).cells (64*1)).toList=List.replicate (64*1) (.int .u8 0):=mH _ _ (by decide) (fun j hj=>by
  have:j=0:=by have:j < 1:=hj; omega
  subst this
  rfl) _
 have Z3:=hid (show w3.heap[w2.heap.size]? = some (.cells (madeCells (Value.int .u8 0).cells (64*1)) 5 (0,0)) by rw [<-hw3]; exact heap_alloc_new w2 _)
 obtain ⟨gb,hgb⟩:∃ gb,w2.heap.size=gb:=⟨_,rfl⟩
 rw [hgb] at Z3
 have E3:=hid (aC B2.out B3.out)
 have X3:=hid (X1.out.below E3.out X1.out.lt)
 have F3:=hid (F2.out.below B3.out F2.out.lt)
 have R3:=hid (R1.out.later E3.out)
 obtain ⟨P,hP⟩:∃ P,p*64=P:=⟨_,rfl⟩
 have hPi:(p:Int)*64=(P:Int):=by rw [<-hP]; push_cast; rfl
 have hwP:IntKind.i64.wrap (P:Int)=(P:Int):=IntWalk.i64_in _ (by omega)
 have hmin:min (n - P) 64=64:=by omega
 have hpg:(iD bs p).length=64:=eO _ _ _
 have hcp:(Builtin.copy_ #[30,30] 3 #[.slice (some ⟨gb,0,none⟩) 64 64,.slice (some ⟨bi,oi+P,none⟩) (n - P) (ci - P)]).run Tryz.prog w3=.ok (goInt 64) (w3.setRow gb (u8s (iD bs p)).toArray):=by
  have h:=run_copy_row (P:=Tryz.prog) w3 30 30 3 5 gb 0 64 64 ⟨bi,oi+P,none⟩ (n - P) (ci - P) (madeCells (Value.int .u8 0).cells (64*1)) 5 (u8s (iD bs p)) Tryz.underlying30 LG Z3.out (by rw [jA,hpg]; exact hmin.symm) (fun j v hv=>by
   have hj:j < 64:=by have:=(List.getElem?_eq_some_iff.1 hv).1; rw [jA,hpg] at this; exact this
   have e1:(iD bs p)[j]? = some (bs.getD (64*p+j) 0):=gR hj
   rw [d9 e1] at hv
   have hv:=Option.some.inj hv
   obtain ⟨y,hy⟩:∃ y,bs[P+j]? = some y:=⟨_,List.getElem?_eq_getElem (by rw [Hn.out]; omega)⟩
   have e2:bs.getD (64*p+j) 0=y:=by rw [List.getD_eq_getElem?_getD,show 64*p+j=P+j by omega,hy]; rfl
   rw [e2] at hv
   obtain ⟨b',o',hA',_,hc⟩:=R3.out (P+j) _ (d9 hy)
   injection hA' with hA'
   injection hA' with e3 e4
   subst e3 e4
   rw [hv] at hc
   unfold Addr.add
   split
   ·rename_i hj0
    have hj0:j=0:=by simpa using hj0
    subst hj0
    simpa using hc
   ·rw [Nat.add_assoc]
    exact hc) (by rw [jA,hpg,<-Array.length_toList,hmz,List.length_replicate]; omega) (qS _)
  have hl64:(u8s (iD bs p)).length=64:=by rw [jA,hpg]
  rw [hl64] at h
  rw [h]
  congr 2
  rw [List.take_zero,List.nil_append,List.drop_of_length_le (by rw [hmz,List.length_replicate]; omega),List.append_nil]
 have Hw2:=hid hw2
 have Hw3:=hid hw3
 have Hgb:=hid hgb
 have Hz2:=hid hz2
 have d3:=X3.out.cell 0
 clear h1 h4 h5 hn hb0 hg1 hA hgm hw2 hw3 hP hmz hgb hz2
 go_enter Tryz.func184,Tryz.ntmps184
 go_wp2_with (first | (go_at_call 143; refine HW.out.mono ?_; rintro e w2 ⟨rfl,rfl⟩) | (refine fY _ rfl (.const (.int .i64 64)) (.const (.int .i64 64)) 30 rfl 5 i0 (.int .u8 0) 1 Tryz.underlying30 hi hz0 hi1 .i64 .i64 64 rfl rfl (by rw [hi2]; decide) (by decide) ?_; rw [Hw2.out,Hw3.out,Hgb.out]))
 obtain ⟨y0,hy0⟩:∃ y0,(iD bs p)[0]? = some y0:=⟨_,List.getElem?_eq_getElem (by omega)⟩
 have hy256:y0 < 256:=by
  have e1:(iD bs p)[0]? = some (bs.getD (64*p+0) 0):=gR (by omega)
  rw [hy0] at e1
  have e1:=Option.some.inj e1
  rw [e1,List.getD_eq_getElem?_getD]
  cases hq:bs[64*p+0]? with
  | none=>show (0:Nat) < 256; omega
  | some z=>exact hb z (List.mem_of_getElem? hq)
 have hgb1:gb=w1.heap.size+1:=by rw [<-Hgb.out,Hz2.out]
 have E4:=hid (show Below w1.heap.size w1 (w3.setRow gb (u8s (iD bs p)).toArray) from aO E3.out gb (by omega) _)
 have Y4:=hid (show Blk (w3.setRow gb (u8s (iD bs p)).toArray) gb 5 (u8s (iD bs p)) from bB w3 gb _ _ _ Z3.out)
 have F4:=hid (show Blk (w3.setRow gb (u8s (iD bs p)).toArray) w1.heap.size 245 [.int .i64 0,.int .i64 0,.int .u8 0] from F3.out.grown (cZ (World.grownBy.refl w3 (some gb)) _) (fun e=>by have e:=Option.some.inj e; omega))
 obtain ⟨w4,hw4⟩:∃ w4,w3.setRow gb (u8s (iD bs p)).toArray=w4:=⟨_,rfl⟩
 rw [hw4] at E4 Y4 F4 ⊢
 have hyc:(u8s (iD bs p))[0]? = some (.int .u8 (y0:Int)):=d9 hy0
 have xF1:=fun (z:GW w4)=>(show z.1.cell? ⟨w1.heap.size,1,none⟩=some (.int .i64 0) from (z.2.cell (p:=⟨w1.heap.size,1,none⟩) F4.out.lt).trans (F4.out.cell 1))
 have xF2:=fun (z:GW w4)=>(show z.1.cell? ⟨w1.heap.size,2,none⟩=some (.int .u8 0) from (z.2.cell (p:=⟨w1.heap.size,2,none⟩) F4.out.lt).trans (F4.out.cell 2))
 have xY:=fun (z:GW w4)=>(show z.1.cell? ⟨gb,0,none⟩=some (.int .u8 (y0:Int)) from (z.2.cell (p:=⟨gb,0,none⟩) Y4.out.lt).trans ((Y4.out.cell 0).trans hyc))
 have Hgb1:=hid hgb1
 have Hyc:=hid hyc
 clear hcp hw4 hy0 hyc hgb1 d3 Hw2 Hw3
 have hxr:bits .xor .u8 (y0:Int) 0=(y0:Int):=(show ∀ y:Fin 256,bits .xor .u8 (y.1:Int) 0=(y.1:Int) by decide +kernel) ⟨y0,hy256⟩
 refine aI 9 (by kernel_rfl) (by kernel_rfl) ?_
 simp only [List.take_succ_cons,List.take_zero,List.drop_succ_cons,List.drop_zero]
 repeat (go_big_quiet_step (fail))
 refine wpQuiet_nil ?_
 intro w5 hw'
 have E5:=hid (aC E4.out (aK hw'))
 have Y5:=hid (Y4.out.below (aK hw') Y4.out.lt)
 have c5:=(Y5.out.cell 0).trans Hyc.out
 have f5:=Y5.out.frozen 0
 have HX5:=hid (fun W' (hE:Below w1.heap.size w1 W')=>(show DiskAt W' g bs (rd+1) (some ⟨bi,oi,none⟩) gm from ⟨⟨ci,by rw [Hn.out]; exact X1.out.below hE X1.out.lt,by rw [Hn.out]; exact h2,h3⟩,R1.out.later hE,(hE.block gm (hlt M1.out)).trans M1.out⟩))
 clear hw' xF1 xF2 xY
 go_wp2
 refine bodyPost_ret (results_tmp2 Tryz.results184 _ _ _) rfl ?_
 have E6:Below w1.heap.size w1 (w5.setCell ⟨gb,0,none⟩ (.int .u8 (y0:Int))):=E5.out.setCell (show w1.heap.size<=gb by have:=Hgb1.out; omega) _
 refine ⟨gb,rfl,by have:=Hgb1.out; have:=O1.out.size; omega,?_,HX5.out _ E6,O1.out.trans (OnlyIn.of_below _ E6)⟩
 have h:=Y5.out.set_ 0 (.int .u8 (y0:Int))
 have e:(u8s (iD bs p)).set 0 (.int .u8 (y0:Int))=u8s (iD bs p):=by
  refine List.ext_getElem? fun j=>?_
  by_cases hj:j=0
  ·subst hj
   rw [List.getElem?_set_self (by rw [jA,hpg]; omega),Hyc.out]
  ·rw [List.getElem?_set_ne (fun e=>hj e.symm)]
 rw [e] at h
 exact h
end
section
open Go.RowKit Go.Lib
structure SlotV where
 page:Int
 used:Bool
 full:Bool
 a:Option Addr
 len:Nat
 cap:Nat
instance:Inhabited SlotV:=⟨⟨0,false,false,none,0,0⟩⟩
def SlotV.cells (s:SlotV):List Value:=[.int .i64 s.page,.bool s.used,.bool s.full,.slice s.a s.len s.cap]
def dY (L:List SlotV):List Value:=(L.map SlotV.cells).flatten
theorem nH (L:List SlotV) {k:Nat} {s:SlotV} (h:L[k]? = some s) (j:Nat) (hj:j < 4):(dY L)[k*4+j]? = s.cells[j]?:=by
 unfold dY
 rw [mX 4 (L.map SlotV.cells) (fun cs hcs=>by obtain ⟨z,_,rfl⟩:=List.mem_map.1 hcs; rfl) k j hj]
 simp [h]
theorem nI (L:List SlotV):(dY L).length=L.length*4:=by
 induction L with
 | nil=>rfl
 | cons p r ih =>
  show (p.cells ++ dY r).length=_
  rw [List.length_append,ih,List.length_cons,Nat.succ_mul]
  show 4+_=_
  omega
structure CacheV where
 hits:Int
 misses:Int
 tries:Int
 lost:Int
 hand:Nat
 retry:Nat
 SL:List SlotV
def CacheV.cells (v:CacheV) (gd gs:Nat):List Value:=[.int .i64 v.hits,.int .i64 v.misses,.int .i64 v.tries,.int .i64 v.lost,.pointer (some ⟨gd,0,none⟩),.slice (some ⟨gs,0,none⟩) v.SL.length v.SL.length,.int .i64 v.hand,.int .i64 v.retry]
structure CacheAt (w:World) (gc gd gs:Nat) (v:CacheV):Prop where
 head:Blk w gc 188 (v.cells gd gs)
 slots:Blk w gs 247 (dY v.SL)
 many:v.SL.length<=1024
 one:0 < v.SL.length
 hand:v.hand < v.SL.length
 tries:v.retry<=8
theorem CacheAt.below {w w':World} {gc gd gs:Nat} {v:CacheV} (h:CacheAt w gc gd gs v) (hb:Below w.heap.size w w'):CacheAt w' gc gd gs v:=⟨h.head.below hb h.head.lt,h.slots.below hb h.slots.lt,h.many,h.one,h.hand,h.tries⟩
theorem CacheAt.slot {w:World} {gc gd gs:Nat} {v:CacheV} (h:CacheAt w gc gd gs v) {k:Nat} {s:SlotV} (hs:v.SL[k]? = some s) (j:Nat) {x:Value} (hx:s.cells[j]? = some x):w.cell? ⟨gs,k*4+j,none⟩=some x:=by
 have hj:j < 4:=(List.getElem?_eq_some_iff.1 hx).1
 rw [h.slots.cell,nH v.SL hs j hj,hx]
def AU (p:Int) (s:SlotV):Bool:=s.full && (s.page == p)
def v8 (L:List SlotV) (p:Int):Int:=match L.findIdx? (AU p) with | some i=>i | none=>-1
theorem aBk {L:List SlotV} {p:Int} {k:Nat} {s:SlotV} (hs:L[k]? = some s) (h:AU p s=true) (hpre:∀ (t:Nat) x,t < k->L[t]? = some x->AU p x=false):v8 L p=k:=by
 have:L.findIdx? (AU p)=some k:=by
  rw [List.findIdx?_eq_some_iff_getElem]
  obtain ⟨hk,rfl⟩:=List.getElem?_eq_some_iff.1 hs
  exact ⟨hk,h,fun t ht=>by rw [hpre t _ ht (List.getElem?_eq_getElem (by omega))]; decide⟩
 unfold v8
 rw [this]
theorem UF {L:List SlotV} {p:Int} (hpre:∀ (t:Nat) x,L[t]? = some x->AU p x=false):v8 L p = -1:=by
 have:L.findIdx? (AU p)=none:=by
  rw [List.findIdx?_eq_none_iff]
  intro x hx
  obtain ⟨t,ht⟩:=List.getElem?_of_mem hx
  exact hpre t x ht
 unfold v8
 rw [this]
theorem GH (w:World) (gc gd gs:Nat) (v:CacheV) (p:Int) (h:CacheAt w gc gd gs v):Calls Tryz.prog 145 #[.pointer (some ⟨gc,0,none⟩),.int .i64 p] w fun e w'=>e=.returned (.int .i64 (v8 v.SL p))/\w=w':=by
 have HSl:=hid (fun (k:Nat) s (hs:v.SL[k]? = some s) j x (hx:s.cells[j]? = some x)=>h.slot hs j hx)
 have HFa:=hid (fun (k:Nat) s (hs:v.SL[k]? = some s) h1 h2=>aBk (p:=p) hs h1 h2)
 have HFn:=hid (fun h1=>UF (L:=v.SL) (p:=p) h1)
 have hm:=h.many
 have c5:w.cell? ⟨gc,5,none⟩=some (.slice (some ⟨gs,0,none⟩) v.SL.length v.SL.length):=(h.head.cell 5).trans rfl
 obtain ⟨n,hn⟩:∃ n,v.SL.length=n:=⟨_,rfl⟩
 rw [hn] at c5 hm
 have Hn:=hid hn
 generalize v.SL=L at *
 generalize v8 L p=F at *
 clear h hn
 go_enter Tryz.func145,Tryz.ntmps145
 go_wp2_with fail
 go_loopw [11] (fun i wr=>∃ k:Nat,k<=n/\i=.int .i64 k/\(∀ (t:Nat) x,t < k->L[t]? = some x->AU p x=false)/\wr=w) (fun i _=>n - (intOf i).toNat)
 case atStart=>exact ⟨0,by omega,rfl,fun t x h=>absurd h (Nat.not_lt_zero _),rfl⟩
 case round =>
  obtain ⟨k,hk,rfl,hq,rfl⟩:=hrel
  by_cases ZG:k < n
  ·have t1:(k:Int) < (n:Int):=by omega
   have t2:(0:Int)<=(k:Int):=by omega
   obtain ⟨s,hs⟩:=aE (k:=k) Hn.out ZG
   have s0:=HSl.out k s hs 0 _ (show s.cells[0]? = some (.int .i64 s.page) from rfl)
   have s2:=HSl.out k s hs 2 _ (show s.cells[2]? = some (.bool s.full) from rfl)
   rw [Nat.add_zero] at s0
   have Hq:=hid hq
   have Hs:=hid hs
   have Hh:=hid (show AU p s=(s.full && (s.page == p)) from rfl)
   generalize s.full=fu at *
   generalize s.page=pg at *
   clear hq hs
   cases fu with
   | false =>
    have Hne:=hid (show AU p s=false by rw [Hh.out]; rfl)
    go_wp2
    go_roundw
    case rel=>exact ⟨k+1,by omega,by go_num,fun t x ht hx=>by
     by_cases htk:t=k
     ·subst htk
      rw [Hs.out] at hx
      injection hx with hx
      rw [<-hx]; exact Hne.out
     ·exact Hq.out t x (by omega) hx,trivial⟩
    case measure=>first | (simp [intOf]; done) | (simp [intOf]; omega)
   | true =>
    by_cases hpp:pg=p
    ·subst hpp
     have Hye:=hid (HFa.out k s Hs.out (by rw [Hh.out]; simp) Hq.out)
     go_wp2
     go_ret
     exact ⟨by rw [Hye.out]; rfl,rfl⟩
    ·have hb:(pg == p)=false:=beq_eq_false_iff_ne.2 hpp
     have Hne:=hid (show AU p s=false by rw [Hh.out,hb]; rfl)
     clear hpp
     go_wp2
     go_roundw
     case rel=>exact ⟨k+1,by omega,by go_num,fun t x ht hx=>by
      by_cases htk:t=k
      ·subst htk
       rw [Hs.out] at hx
       injection hx with hx
       rw [<-hx]; exact Hne.out
      ·exact Hq.out t x (by omega) hx,trivial⟩
     case measure=>first | (simp [intOf]; done) | (simp [intOf]; omega)
  ·have hkn:k=n:=by omega
   subst hkn
   have t1:¬ ((k:Int) < (k:Int)):=by omega
   have Hno:=hid (HFn.out (fun t x hx=>hq t x (by have:=(List.getElem?_eq_some_iff.1 hx).1; rw [Hn.out] at this; exact this) hx))
   clear hq
   go_wp2
   go_ret
   exact ⟨by rw [Hno.out]; rfl,rfl⟩
end
section
open Go.RowKit Go.Lib
theorem cL {w:World} {g g':Nat} {t t':TypeId} {xs ys:List Value} (h:Blk w g t xs) (k:Blk w g' t' ys) (ht:t ≠ t'):g ≠ g':=fun e=>by
 subst e
 unfold Blk at h k
 rw [h] at k
 injection k with k
 injection k with _ k
 exact ht k
theorem vV {w:World} {g g':Nat} {t:TypeId} {xs:List Value} {es:Array MapEntry} {c:Nat} (h:Blk w g t xs) (k:w.heap[g']? = some (.map es c)):g' ≠ g:=fun e=>by
 subst e
 unfold Blk at h
 rw [h] at k
 injection k with k
 cases k
theorem DiskAt.blk {w:World} {g:Nat} {bs:List Nat} {rd:Int} {Ai:Option Addr} {gm:Nat} (h:DiskAt w g bs rd Ai gm):∃ ci,Blk w g 232 [.slice Ai bs.length ci,.map (some gm),.int .i64 rd,.int .i64 0]:=by
 obtain ⟨⟨ci,h1,_⟩,_⟩:=h
 exact ⟨ci,h1⟩
theorem DiskAt.only {w w':World} {g:Nat} {bs:List Nat} {rd:Int} {Ai:Option Addr} {gm:Nat} {S:List Nat} (h:DiskAt w g bs rd Ai gm) (hO:OnlyIn S w w') (h1:g ∉ S) (h2:gm ∉ S) (h3:∀ ad,Ai=some ad->ad.block ∉ S):DiskAt w' g bs rd Ai gm:=by
 obtain ⟨⟨ci,k1,k2,k3⟩,k4,k5⟩:=h
 exact ⟨⟨ci,hO.heap k1 h1,k2,k3⟩,hO.row k4 h3,hO.heap k5 h2⟩
theorem CacheAt.only {w w':World} {gc gd gs:Nat} {v:CacheV} {S:List Nat} (h:CacheAt w gc gd gs v) (hO:OnlyIn S w w') (h1:gc ∉ S) (h2:gs ∉ S):CacheAt w' gc gd gs v:=⟨hO.heap h.head h1,hO.heap h.slots h2,h.many,h.one,h.hand,h.tries⟩
def aCw (w:World) (gc gd gs:Nat) (bs:List Nat) (rd:Int) (Ai:Option Addr) (gm:Nat) (v:CacheV) (p:Nat) (e:Ending) (w':World):Prop :=
 ∃ gb,e=.returned (.tuple #[.slice (some ⟨gb,0,none⟩) 64 64,.int .i64 0])/\w.heap.size<=gb/\Blk w' gb 5 (u8s (iD bs p))/\DiskAt w' gd bs (rd+1) Ai gm/\CacheAt w' gc gd gs { v with tries:=v.tries+1 }/\OnlyIn [gc,gd] w w'
theorem KQ (w:World) (gc gd gs:Nat) (bs:List Nat) (rd:Int) (Ai:Option Addr) (gm:Nat) (v:CacheV) (p:Nat) (hC:CacheAt w gc gd gs v) (hD:DiskAt w gd bs rd Ai gm) (hl:bs.length<=4194304) (hp:p*64+64<=bs.length) (hb:Byt bs)
  (hA:∀ ad,Ai=some ad->ad.block ≠ gc/\ad.block ≠ gs/\ad.block ≠ gd) (hrd:0<=rd/\rd<=4000000000000000) (htr:0<=v.tries/\v.tries<=4000000000000000) :
  Calls Tryz.prog 146 #[.pointer (some ⟨gc,0,none⟩),.int .i64 p] w (aCw w gc gd gs bs rd Ai gm v p):=by
 obtain ⟨cd,hDb⟩:=hD.blk
 have ncd:=cL hC.head hDb (by decide)
 have nsd:=cL hC.slots hDb (by decide)
 have ncs:=cL hC.head hC.slots (by decide)
 have nmc:=vV hC.head hD.2.2
 have nmd:=vV hDb hD.2.2
 have c2:w.cell? ⟨gc,2,none⟩=some (.int .i64 v.tries):=(hC.head.cell 2).trans rfl
 have c4:w.cell? ⟨gc,4,none⟩=some (.pointer (some ⟨gd,0,none⟩)):=(hC.head.cell 4).trans rfl
 have c7:w.cell? ⟨gc,7,none⟩=some (.int .i64 v.retry):=(hC.head.cell 7).trans rfl
 have f2:=hC.head.frozen 2
 obtain ⟨w1,hw1⟩:∃ w1,w.setCell ⟨gc,2,none⟩ (.int .i64 (v.tries+1))=w1:=⟨_,rfl⟩
 have hg1:w.grownBy w1 (some gc):=by rw [<-hw1]; exact grownBy_setB (World.grownBy.refl _ _) _ _
 have X1:Blk w1 gc 188 (CacheV.cells { v with tries:=v.tries+1 } gd gs):=by rw [<-hw1]; exact hC.head.set_ 2 _
 have O1:=hid (OnlyIn.of_grown hg1 (List.mem_singleton.2 rfl))
 have C1:=hid (show CacheAt w1 gc gd gs { v with tries:=v.tries+1 } from ⟨X1,O1.out.heap hC.slots (by simpa using ncs.symm),hC.many,hC.one,hC.hand,hC.tries⟩)
 have D1:=hid (hD.only O1.out (by simpa using ncd.symm) (by simpa using nmc) (fun ad had=>by simpa using (hA ad had).1))
 have HR:=hid (KZ w1 gd bs rd Ai gm p D1.out hl hp (fun ad had=>(hA ad had).2.2) nmd hb hrd)
 have d4:w1.cell? ⟨gc,4,none⟩=some (.pointer (some ⟨gd,0,none⟩)):=(C1.out.head.cell 4).trans rfl
 have hwr:IntKind.i64.wrap ((v.retry:Int)+1)=(v.retry:Int)+1:=IntWalk.i64_in _ (by have:=hC.tries; omega)
 have hwt:IntKind.i64.wrap (v.tries+1)=v.tries+1:=IntWalk.i64_in _ (by omega)
 have hr8:=hC.tries
 have Hnn:=hid (show gc ≠ gd/\gs ≠ gd from ⟨ncd,nsd⟩)
 have Htr:=hid htr
 unfold aDq at HR
 have HT:=hid (show ∀ e w',(∃ gb,e=.returned (.tuple #[.slice (some ⟨gb,0,none⟩) 64 64,.int .i64 0])/\w.heap.size<=gb/\Blk w' gb 5 (u8s (iD bs p))/\DiskAt w' gd bs (rd+1) Ai gm/\CacheAt w' gc gd gs { v with tries:=v.tries+1 }/\OnlyIn [gc,gd] w w')->aCw w gc gd gs bs rd Ai gm v p e w' from fun _ _ h=>h)
 generalize aCw w gc gd gs bs rd Ai gm v p=TP at *
 have HC1:=C1
 obtain ⟨hits,misses,tries,lost,hand,retry,SL⟩:=v
 simp only at c2 c7 hwr hwt hr8 hw1
 clear hC hD hA hDb hg1 X1 ncd nsd ncs nmc nmd hl hp hb C1 htr
 have t1:(0:Int) < (retry:Int)+1:=by omega
 go_enter Tryz.func146,Tryz.ntmps146
 go_wp2_with fail
 refine wp_loop_rounds 1 ?_
 rw [rounds_succ]
 go_wp2_with (go_at_call 184; fail)
 refine HR.out.mono ?_
 rintro e w2 ⟨gb,rfl,hgb,hY,hD2,hO2⟩
 have HF:=hid (HT.out _ w2 ⟨gb,rfl,Nat.le_trans O1.out.size hgb,hY,hD2,HC1.out.only hO2 (by simpa using Hnn.out.1) (by simpa using Hnn.out.2),(O1.out.more (by simp)).trans (hO2.more (by simp))⟩)
 clear hgb hY hD2 hO2 HR
 go_wp2
 exact HF.out
end
section
open Go.RowKit Go.Lib
def SlotV.strip (s:SlotV):Int × Bool × Option Addr × Nat × Nat:=(s.page,s.full,s.a,s.len,s.cap)
structure SameV (v v':CacheV):Prop where
 hits:v'.hits=v.hits
 misses:v'.misses=v.misses
 tries:v'.tries=v.tries
 lost:v'.lost=v.lost
 retry:v'.retry=v.retry
 slots:v'.SL.map SlotV.strip=v.SL.map SlotV.strip
theorem SameV.refl (v:CacheV):SameV v v:=⟨rfl,rfl,rfl,rfl,rfl,rfl⟩
theorem SameV.len {v v':CacheV} (h:SameV v v'):v'.SL.length=v.SL.length:=by
 have:=congrArg List.length h.slots
 simpa using this
def aCp (w:World) (gs k:Nat):Bool:=match w.cell? ⟨gs,k*4+1,none⟩ with | some (.bool b)=>b | _=>false
def rF (w:World) (gs n:Nat):Nat:=(List.range n).countP (aCp w gs)
theorem pN {w:World} {gc gd gs:Nat} {v:CacheV} (h:CacheAt w gc gd gs v):rF w gs v.SL.length=v.SL.countP (·.used):=by
 have e:v.SL=(List.range v.SL.length).map (fun k=>v.SL.getD k default):=by
  refine List.ext_getElem? fun k=>?_
  rw [List.getElem?_map]
  by_cases hk:k < v.SL.length
  ·rw [List.getElem?_range hk,Option.map_some,List.getD_eq_getElem?_getD,List.getElem?_eq_getElem hk]
   rfl
  ·rw [List.getElem?_eq_none (by omega),List.getElem?_eq_none (by simpa using hk)]
   rfl
 have e2:v.SL.countP (·.used)=((List.range v.SL.length).map (fun k=>v.SL.getD k default)).countP (·.used):=congrArg _ e
 rw [e2,List.countP_map]
 unfold rF
 refine List.countP_congr fun k hk=>?_
 have hk:=List.mem_range.1 hk
 have hs:v.SL[k]? = some (v.SL.getD k default):=by rw [List.getD_eq_getElem?_getD,List.getElem?_eq_getElem hk]; rfl
 have hc:=h.slot hs 1 (show (v.SL.getD k default).cells[1]? = some (.bool (v.SL.getD k default).used) from rfl)
 unfold aCp
 rw [hc]
 exact Iff.rfl
theorem zE:∀ (L:List SlotV) (i:Nat) (s:SlotV),L[i]? = some s->s.used=true->(L.set i { s with used:=false }).countP (·.used)+1=L.countP (·.used)
 | [],_,_,h,_=>by simp at h
 | x :: r,0,s,h,hu=>by
  have h:x=s:=by simpa using h
  subst h
  rw [List.set_cons_zero,List.countP_cons,List.countP_cons,hu]
  rfl
 | x :: r,i+1,s,h,hu=>by
  have h:r[i]? = some s:=by simpa using h
  rw [List.set_cons_succ,List.countP_cons,List.countP_cons,<-zE r i s h hu]
  omega
theorem vF:∀ (L:List SlotV) (i:Nat) (s:SlotV) (j:Nat) (x:Value) (s':SlotV),L[i]? = some s->j < 4->s'.cells=s.cells.set j x->(dY L).set (i*4+j) x=dY (L.set i s')
 | [],_,_,_,_,_,h,_,_=>by simp at h
 | y :: r,0,s,j,x,s',h,hj,hc=>by
  have h:y=s:=by simpa using h
  subst h
  show (y.cells ++ dY r).set (0*4+j) x=s'.cells ++ dY r
  rw [Nat.zero_mul,Nat.zero_add,hc,List.set_append_left _ _ (by show j < 4; exact hj)]
 | y :: r,i+1,s,j,x,s',h,hj,hc=>by
  have h:r[i]? = some s:=by simpa using h
  show (y.cells ++ dY r).set ((i+1)*4+j) x=y.cells ++ dY (r.set i s')
  have hl:y.cells.length=4:=rfl
  rw [List.set_append_right _ _ (by rw [hl]; omega),hl,show (i+1)*4+j - 4=i*4+j by omega,vF r i s j x s' h hj hc]
theorem aAD {L:List SlotV} {i:Nat} {s s':SlotV} (h:L[i]? = some s) (hs:s'.strip=s.strip):(L.set i s').map SlotV.strip=L.map SlotV.strip:=by
 rw [List.map_set,hs]
 refine List.ext_getElem? fun k=>?_
 by_cases hk:i=k
 ·subst hk
  have hi:=(List.getElem?_eq_some_iff.1 h).1
  rw [List.getElem?_set_self (by rw [List.length_map]; exact hi),List.getElem?_map,h]
  rfl
 ·rw [List.getElem?_set_ne hk]
def A6 (w:World) (gc gd gs:Nat) (v:CacheV) (e:Ending) (w':World):Prop:=∃ (i:Nat) (v':CacheV),e=.returned (.int .i64 i)/\i < v.SL.length/\SameV v v'/\CacheAt w' gc gd gs v'/\OnlyIn [gc,gs] w w'
theorem AS (w:World) (gc gd gs:Nat) (v:CacheV) (h:CacheAt w gc gd gs v):Calls Tryz.prog 147 #[.pointer (some ⟨gc,0,none⟩)] w (A6 w gc gd gs v):=by
 have ncs:=cL h.head h.slots (by decide)
 have HV:=hid (show ∀ e w',(∃ (i:Nat) (v':CacheV),e=.returned (.int .i64 i)/\i < v.SL.length/\SameV v v'/\CacheAt w' gc gd gs v'/\OnlyIn [gc,gs] w w')->A6 w gc gd gs v e w' from fun _ _ h=>h)
 generalize A6 w gc gd gs v=VP at *
 have Hh:=hid h
 have Hncs:=hid ncs
 obtain ⟨n,hn⟩:∃ n,v.SL.length=n:=⟨_,rfl⟩
 have hn1:0 < n:=by rw [<-hn]; exact h.one
 have hn2:n<=1024:=by rw [<-hn]; exact h.many
 rw [hn] at HV
 have Hn:=hid hn
 clear h ncs hn
 go_enter Tryz.func147,Tryz.ntmps147
 go_wp2_with fail
 go_loopw [3] (fun _ wr=>∃ v',SameV v v'/\CacheAt wr gc gd gs v'/\OnlyIn [gc,gs] w wr) (fun _ wr=>rF wr gs n)
 case atStart=>exact ⟨v,SameV.refl v,Hh.out,OnlyIn.refl _ _⟩
 case round =>
  obtain ⟨v1,hsv,hC,hO⟩:=hrel
  have HS:=hid hsv
  have HC:=hid hC
  have HO:=hid hO
  have hl1:v1.SL.length=n:=by rw [hsv.len,Hn.out]
  have Hl1:=hid hl1
  have hhand:=hC.hand
  rw [hl1] at hhand
  obtain ⟨hd,hhd⟩:∃ hd,v1.hand=hd:=⟨_,rfl⟩
  rw [hhd] at hhand
  have c6:wr.cell? ⟨gc,6,none⟩=some (.int .i64 hd):=by rw [<-hhd]; exact (hC.head.cell 6).trans rfl
  have c5:wr.cell? ⟨gc,5,none⟩=some (.slice (some ⟨gs,0,none⟩) n n):=by rw [<-hl1]; exact (hC.head.cell 5).trans rfl
  have x6:=fun (z:GW wr)=>(show z.1.cell? ⟨gc,6,none⟩=some (.int .i64 hd) from (z.2.cell (p:=⟨gc,6,none⟩) hC.head.lt).trans c6)
  have x5:=fun (z:GW wr)=>(show z.1.cell? ⟨gc,5,none⟩=some (.slice (some ⟨gs,0,none⟩) n n) from (z.2.cell (p:=⟨gc,5,none⟩) hC.head.lt).trans c5)
  obtain ⟨h2,hh2⟩:∃ h2,(hd+1) % n=h2:=⟨_,rfl⟩
  have hh2n:h2 < n:=by rw [<-hh2]; exact Nat.mod_lt _ hn1
  have hwa:IntKind.i64.wrap ((hd:Int)+1)=(hd:Int)+1:=IntWalk.i64_in _ (by omega)
  have hrm:((hd:Int)+1).tmod (n:Int)=(h2:Int):=by
   have e:(hd:Int)+1=((hd+1:Nat):Int):=by push_cast; rfl
   rw [e,<-hh2]; rfl
  have hwb:IntKind.i64.wrap (h2:Int)=(h2:Int):=IntWalk.i64_in _ (by omega)
  have n0:((n:Int) == 0)=false:=beq_eq_false_iff_ne.2 (by omega)
  obtain ⟨s,hs⟩:∃ s,v1.SL[hd]? = some s:=⟨_,List.getElem?_eq_getElem (by omega)⟩
  have t1:(hd:Int) < (n:Int):=by omega
  have t2:(0:Int)<=(hd:Int):=by omega
  have Hs:=hid hs
  have Hhd:=hid hhd
  have Hh2:=hid hh2n
  clear hsv hC hO hl1 hhd hh2 hs
  go_wp2_with fail
  refine aI 14 (by kernel_rfl) (by kernel_rfl) ?_
  simp only [List.take_succ_cons,List.take_zero,List.drop_succ_cons,List.drop_zero]
  repeat (go_big_quiet_step (fail))
  refine wpQuiet_nil ?_
  intro w5 hw'
  have C5:=hid (HC.out.below (aK hw'))
  have O5:=hid (HO.out.trans (OnlyIn.of_below [gc,gs] (aK hw')))
  have hu5:rF w5 gs n=rF wr gs n:=by
   rw [<-Hl1.out,pN C5.out,pN HC.out]
  have Hu5:=hid hu5
  have e6:w5.cell? ⟨gc,6,none⟩=some (.int .i64 hd):=by rw [<-Hhd.out]; exact (C5.out.head.cell 6).trans rfl
  have f6:=C5.out.head.frozen 6
  obtain ⟨w6,hw6⟩:∃ w6,w5.setCell ⟨gc,6,none⟩ (.int .i64 h2)=w6:=⟨_,rfl⟩
  have hg6:w5.grownBy w6 (some gc):=by rw [<-hw6]; exact grownBy_setB (World.grownBy.refl _ _) _ _
  have hX6:Blk w6 gc 188 (CacheV.cells { v1 with hand:=h2 } gd gs):=by rw [<-hw6]; exact C5.out.head.set_ 6 _
  have hO6:OnlyIn [gc] w5 w6:=OnlyIn.of_grown hg6 (List.mem_singleton.2 rfl)
  have C6:=hid (show CacheAt w6 gc gd gs { v1 with hand:=h2 } from ⟨hX6,hO6.heap C5.out.slots (by simpa using Hncs.out.symm),C5.out.many,C5.out.one,by show h2 < _; rw [Hl1.out]; exact Hh2.out,C5.out.tries⟩)
  have O6:=hid (O5.out.trans (hO6.more (by simp)))
  have d5:w6.cell? ⟨gc,5,none⟩=some (.slice (some ⟨gs,0,none⟩) n n):=by rw [<-Hl1.out]; exact (C6.out.head.cell 5).trans rfl
  have s1:=C6.out.slot Hs.out 1 (show s.cells[1]? = some (.bool s.used) from rfl)
  have s2:=C6.out.slot Hs.out 2 (show s.cells[2]? = some (.bool s.full) from rfl)
  have g1:=C6.out.slots.frozen (hd*4+1)
  have HSv:=hid (show SameV v { v1 with hand:=h2 } from ⟨HS.out.hits,HS.out.misses,HS.out.tries,HS.out.lost,HS.out.retry,HS.out.slots⟩)
  have Hu6:=hid (show rF w6 gs n=rF wr gs n by
   have e2:rF w6 gs ({ v1 with hand:=h2 }:CacheV).SL.length=({ v1 with hand:=h2 }:CacheV).SL.countP (·.used):=pN C6.out
   rw [<-Hu5.out,<-Hl1.out,pN C5.out]
   exact e2)
  obtain ⟨us,hus⟩:∃ us,s.used=us:=⟨_,rfl⟩
  obtain ⟨fu,hfu⟩:∃ fu,s.full=fu:=⟨_,rfl⟩
  rw [hus] at s1
  rw [hfu] at s2
  have Hus:=hid hus
  clear hw' x6 x5 c6 c5 hu5 hg6 hX6 hO6 hus hfu
  cases fu with
  | false =>
   go_wp2
   exact HV.out _ _ ⟨hd,_,rfl,hhand,HSv.out,C6.out,O6.out⟩
  | true =>
   cases us with
   | false =>
    go_wp2
    exact HV.out _ _ ⟨hd,_,rfl,hhand,HSv.out,C6.out,O6.out⟩
   | true =>
    have hX7:Blk (w6.setCell ⟨gs,hd*4+1,none⟩ (.bool false)) gs 247 (dY (v1.SL.set hd { s with used:=false })):=by
     have h:=C6.out.slots.set_ (hd*4+1) (.bool false)
     rw [vF v1.SL hd s 1 (.bool false) { s with used:=false } Hs.out (by omega) rfl] at h
     exact h
    have hO7:OnlyIn [gs] w6 (w6.setCell ⟨gs,hd*4+1,none⟩ (.bool false)):=OnlyIn.of_grown (grownBy_setB (World.grownBy.refl _ _) _ _) (List.mem_singleton.2 rfl)
    have hlen7:(v1.SL.set hd { s with used:=false }).length=v1.SL.length:=List.length_set
    have C7:=hid (show CacheAt (w6.setCell ⟨gs,hd*4+1,none⟩ (.bool false)) gc gd gs { v1 with hand:=h2,SL:=v1.SL.set hd { s with used:=false } } from by
     refine ⟨?_,hX7,by show (v1.SL.set hd _).length<=_; rw [hlen7]; exact C6.out.many,by show 0 < (v1.SL.set hd _).length; rw [hlen7]; exact C6.out.one,by show h2 < (v1.SL.set hd _).length; rw [hlen7]; exact C6.out.hand,C6.out.tries⟩
     have h:=hO7.heap C6.out.head (by simpa using Hncs.out)
     unfold CacheV.cells at h ⊢
     simp only [hlen7]
     exact h)
    have HSv7:=hid (show SameV v { v1 with hand:=h2,SL:=v1.SL.set hd { s with used:=false } } from ⟨HS.out.hits,HS.out.misses,HS.out.tries,HS.out.lost,HS.out.retry,(aAD (s':={ s with used:=false }) Hs.out rfl).trans HS.out.slots⟩)
    have O7:=hid (O6.out.trans (hO7.more (by simp)))
    have Hu7:=hid (show rF (w6.setCell ⟨gs,hd*4+1,none⟩ (.bool false)) gs n+1=rF wr gs n by
     rw [<-Hu6.out]
     have e1:=pN C7.out
     have e2:=pN C6.out
     have e3:=zE v1.SL hd s Hs.out Hus.out
     have e1:rF (w6.setCell ⟨gs,hd*4+1,none⟩ (.bool false)) gs (v1.SL.set hd { s with used:=false }).length=(v1.SL.set hd { s with used:=false }).countP (·.used):=e1
     have e2:rF w6 gs v1.SL.length=v1.SL.countP (·.used):=e2
     rw [hlen7,Hl1.out] at e1
     rw [Hl1.out] at e2
     omega)
    clear hX7 hO7 hlen7
    go_wp2
    go_roundw
    case rel=>exact ⟨_,HSv7.out,C7.out,O7.out⟩
    case measure=>have:=Hu7.out; omega
end
section
open Go.RowKit Go.Lib
theorem pR {P:Program} {o:Oper} {a:Act} {w:World} {K:Act->World->Prop} {Q:Exit->Act->World->Prop} (ty:TypeId) (x y:Operand) (ho:o.op=.store ty x y)
  (g off:Nat) (hx:a.eval x=.pointer (some ⟨g,off,none⟩)) (t:TypeId) (old xs:List Value) (hy:a.eval y=.agg xs.toArray) (hg:w.heap[g]? = some (.cells old.toArray t (0,0)))
  (hi:(P.info? ty).map (·.size)=some xs.length) (hsz:off+xs.length<=old.length) (h1:∀ v ∈ xs,v.oneCell'=true)
  (h:K (a.put o.dst undef) (w.setRow g (aS old off xs).toArray)):o.wp P a w K Q:=by
 unfold Oper.wp execOp
 simp only [ho,hx,hy,Instr.storeAt,Instr.sureAddr,Sem.run_bind,Sem.run_pure,Result.andThen_ok,n9 w g off t ty old.toArray xs hg hi (by simpa using hsz) h1]
 exact h
theorem FF {L:List SlotV} {i:Nat} (hi:i < L.length) (s':SlotV):aS (dY L) (i*4) s'.cells=dY (L.set i s'):=by
 have hl:=nI L
 have hs4:s'.cells.length=4:=rfl
 refine List.ext_getElem? fun j=>?_
 have hlen:(aS (dY L) (i*4) s'.cells).length=L.length*4:=by rw [cT (by rw [hs4,hl]; omega),hl]
 by_cases hj:j < L.length*4
 ·obtain ⟨q,hq⟩:∃ q,j / 4=q:=⟨_,rfl⟩
  obtain ⟨r,hr⟩:∃ r,j % 4=r:=⟨_,rfl⟩
  have hjq:j=q*4+r:=by omega
  have hr4:r < 4:=by omega
  have hqL:q < L.length:=by omega
  obtain ⟨s,hs⟩:∃ s,L[q]? = some s:=⟨_,List.getElem?_eq_getElem hqL⟩
  by_cases hqi:q=i
  ·subst hqi
   have e1:(L.set q s')[q]? = some s':=List.getElem?_set_self hqL
   rw [hjq,nH _ e1 r hr4]
   unfold aS
   rw [List.append_assoc,List.getElem?_append_right (by rw [List.length_take]; omega),List.length_take,Nat.min_eq_left (by omega),List.getElem?_append_left (by rw [hs4]; omega)]
   congr 1
   omega
  ·have e1:(L.set i s')[q]? = some s:=by rw [List.getElem?_set_ne (fun e=>hqi e.symm)]; exact hs
   rw [hjq,nH _ e1 r hr4,<-nH L hs r hr4]
   unfold aS
   by_cases ZG:q*4+r < i*4
   ·rw [List.append_assoc,List.getElem?_append_left (by rw [List.length_take]; omega),List.getElem?_take,if_pos ZG]
   ·rw [List.getElem?_append_right (by rw [List.length_append,List.length_take,hs4]; omega),List.length_append,List.length_take,hs4,Nat.min_eq_left (by omega),List.getElem?_drop]
    congr 1
    omega
 ·rw [List.getElem?_eq_none (by omega),List.getElem?_eq_none (by rw [nI,List.length_set]; omega)]
def GoodS4 (w:World) (bs:List Nat) (s:SlotV):Prop:=s.full=true->∃ (p gb:Nat),s.page=p/\p*64+64<=bs.length/\s.a=some ⟨gb,0,none⟩/\s.len=64/\s.cap=64/\Blk w gb 5 (u8s (iD bs p))
structure CacheOk (w:World) (bs:List Nat) (gc gd gs:Nat) (Ai:Option Addr) (gm:Nat) (K:Nat) (rd:Int) (v:CacheV):Prop where
 cache:CacheAt w gc gd gs v
 disk:DiskAt w gd bs rd Ai gm
 img:∀ ad,Ai=some ad->ad.block ≠ gc/\ad.block ≠ gs/\ad.block ≠ gd
 full:∀ s ∈ v.SL,GoodS4 w bs s
 cnt:(0<=v.hits/\v.hits<=K)/\(0<=v.misses/\v.misses<=K)/\(0<=v.tries/\v.tries<=K)/\(0<=rd/\rd<=K)
theorem GoodS4.only {w w':World} {bs:List Nat} {s:SlotV} {S:List Nat} (h:GoodS4 w bs s) (hO:OnlyIn S w w') (hS:∀ g ∈ S,∃ t xs,t ≠ 5/\Blk w g t xs):GoodS4 w' bs s:=fun hf=>by
 obtain ⟨p,gb,h1,h2,h3,h4,h5,h6⟩:=h hf
 refine ⟨p,gb,h1,h2,h3,h4,h5,hO.heap h6 (fun hm=>?_)⟩
 obtain ⟨t,xs,ht,hb⟩:=hS gb hm
 exact cL hb h6 ht rfl
theorem OI (L:List SlotV) (p:Int):(v8 L p = -1)\/∃ (i:Nat) (s:SlotV),v8 L p=i/\L[i]? = some s/\s.full=true/\s.page=p:=by
 unfold v8
 cases h:L.findIdx? (AU p) with
 | none=>exact .inl rfl
 | some i =>
  rw [List.findIdx?_eq_some_iff_getElem] at h
  obtain ⟨hi,h1,_⟩:=h
  refine .inr ⟨i,L[i],rfl,List.getElem?_eq_getElem hi,?_⟩
  unfold AU at h1
  simp only [Bool.and_eq_true,beq_iff_eq] at h1
  exact h1
theorem SameV.good {w:World} {bs:List Nat} {v v':CacheV} (h:SameV v v') (hf:∀ s ∈ v.SL,GoodS4 w bs s):∀ s ∈ v'.SL,GoodS4 w bs s:=fun s hs hfu=>by
 have hm:s.strip ∈ v.SL.map SlotV.strip:=by rw [<-h.slots]; exact List.mem_map.2 ⟨s,hs,rfl⟩
 obtain ⟨s0,hs0,he⟩:=List.mem_map.1 hm
 have e1:s0.page=s.page:=congrArg (fun z=>z.1) he
 have e2:s0.full=s.full:=congrArg (fun z=>z.2.1) he
 have e3:s0.a=s.a:=congrArg (fun z=>z.2.2.1) he
 have e4:s0.len=s.len:=congrArg (fun z=>z.2.2.2.1) he
 have e5:s0.cap=s.cap:=congrArg (fun z=>z.2.2.2.2) he
 have h1:=hf s0 hs0 (by rw [e2]; exact hfu)
 rwa [e1,e3,e4,e5] at h1
def FreshS (w:World) (v v':CacheV):Prop:=∀ s ∈ v'.SL,s.full=true->(∃ s0 ∈ v.SL,s0.full=true/\s0.a=s.a)\/(∃ g',s.a=some ⟨g',0,none⟩/\w.heap.size<=g')
def aCt (w:World) (bs:List Nat) (gc gd gs:Nat) (Ai:Option Addr) (gm:Nat) (K:Nat) (v:CacheV) (p:Nat) (e:Ending) (w':World):Prop :=
 ∃ gb rd' v',e=.returned (.tuple #[.slice (some ⟨gb,0,none⟩) 64 64,.int .i64 0])/\Blk w' gb 5 (u8s (iD bs p))/\CacheOk w' bs gc gd gs Ai gm (K+1) rd' v'/\OnlyIn [gc,gs,gd] w w'/\FreshS w v v'
theorem GI (w:World) (bs:List Nat) (gc gd gs:Nat) (Ai:Option Addr) (gm K:Nat) (rd:Int) (v:CacheV) (p:Nat) (h:CacheOk w bs gc gd gs Ai gm K rd v) (hK:K<=1000000000000000) (hl:bs.length<=4194304) (hp:p*64+64<=bs.length) (hb:Byt bs) :
  Calls Tryz.prog 105 #[.pointer (some ⟨gc,0,none⟩),.int .i64 p] w (aCt w bs gc gd gs Ai gm K v p):=by
 have HFi:=hid (GH w gc gd gs v p h.cache)
 have HG:=hid (show ∀ e w',(∃ gb rd' v',e=.returned (.tuple #[.slice (some ⟨gb,0,none⟩) 64 64,.int .i64 0])/\Blk w' gb 5 (u8s (iD bs p))/\CacheOk w' bs gc gd gs Ai gm (K+1) rd' v'/\OnlyIn [gc,gs,gd] w w'/\FreshS w v v')->aCt w bs gc gd gs Ai gm K v p e w' from fun _ _ h=>h)
 obtain ⟨cd,hDb⟩:=h.disk.blk
 have ncd:=cL h.cache.head hDb (by decide)
 have nsd:=cL h.cache.slots hDb (by decide)
 have ncs:=cL h.cache.head h.cache.slots (by decide)
 have nmc:=vV h.cache.head h.disk.2.2
 have nms:=vV h.cache.slots h.disk.2.2
 have HSt:=hid (show ∀ W v',CacheAt W gc gd gs v'->(∀ g ∈ [gc],∃ t xs,t ≠ 5/\Blk W g t xs)/\(∀ g ∈ [gs],∃ t xs,t ≠ 5/\Blk W g t xs)/\(∀ g ∈ [gc,gs],∃ t xs,t ≠ 5/\Blk W g t xs) from fun W v' hC=>by
  have k1:∃ t xs,t ≠ 5/\Blk W gc t xs:=⟨_,_,by decide,hC.head⟩
  have k2:∃ t xs,t ≠ 5/\Blk W gs t xs:=⟨_,_,by decide,hC.slots⟩
  refine ⟨fun g hg=>?_,fun g hg=>?_,fun g hg=>?_⟩
  ·rw [List.mem_singleton.1 hg]; exact k1
  ·rw [List.mem_singleton.1 hg]; exact k2
  ·rcases List.mem_cons.1 hg with rfl | hg
   ·exact k1
   ·rw [List.mem_singleton.1 hg]; exact k2)
 have hcn:=h.cnt
 obtain ⟨n,hn⟩:∃ n,v.SL.length=n:=⟨_,rfl⟩
 have c5:w.cell? ⟨gc,5,none⟩=some (.slice (some ⟨gs,0,none⟩) n n):=by rw [<-hn]; exact (h.cache.head.cell 5).trans rfl
 have hn2:n<=1024:=by rw [<-hn]; exact h.cache.many
 have H:=hid h
 have Hn:=hid hn
 have Hne:=hid (show gc ≠ gd/\gs ≠ gd/\gc ≠ gs/\gm ≠ gc/\gm ≠ gs from ⟨ncd,nsd,ncs,nmc,nms⟩)
 generalize aCt w bs gc gd gs Ai gm K v p=GP at *
 rcases OI v.SL p with hF | ⟨i,s,hF,hs,hfu,hpg⟩
 rotate_left
 ·obtain ⟨p',gb,e1,_,e3,e4,e5,hY⟩:=h.full s (List.mem_of_getElem? hs) hfu
  obtain rfl:p'=p:=by omega
  rw [hF] at HFi
  have hi:i < n:=by rw [<-hn]; exact (List.getElem?_eq_some_iff.1 hs).1
  have c0:w.cell? ⟨gc,0,none⟩=some (.int .i64 v.hits):=(h.cache.head.cell 0).trans rfl
  have f0:=h.cache.head.frozen 0
  have hwh:IntKind.i64.wrap (v.hits+1)=v.hits+1:=IntWalk.i64_in _ (by omega)
  obtain ⟨w1,hw1⟩:∃ w1,w.setCell ⟨gc,0,none⟩ (.int .i64 (v.hits+1))=w1:=⟨_,rfl⟩
  have hg1:w.grownBy w1 (some gc):=by rw [<-hw1]; exact grownBy_setB (World.grownBy.refl _ _) _ _
  have hO1:OnlyIn [gc] w w1:=OnlyIn.of_grown hg1 (List.mem_singleton.2 rfl)
  have hX1:Blk w1 gc 188 (CacheV.cells { v with hits:=v.hits+1 } gd gs):=by rw [<-hw1]; exact h.cache.head.set_ 0 _
  have C1:=hid (show CacheAt w1 gc gd gs { v with hits:=v.hits+1 } from ⟨hX1,hO1.heap h.cache.slots (by simpa using ncs.symm),h.cache.many,h.cache.one,h.cache.hand,h.cache.tries⟩)
  have D1:=hid (h.disk.only hO1 (by simpa using ncd.symm) (by simpa using nmc) (fun ad had=>by simpa using (h.img ad had).1))
  have F1:=hid (fun x hx=>(h.full x hx).only hO1 (HSt.out w v h.cache).1)
  have Y1:=hid (hO1.heap hY (fun hm=>cL h.cache.head hY (by decide) (List.mem_singleton.1 hm).symm))
  have d5:w1.cell? ⟨gc,5,none⟩=some (.slice (some ⟨gs,0,none⟩) n n):=by rw [<-hn]; exact (C1.out.head.cell 5).trans rfl
  have q1:=C1.out.slot hs 1 (show s.cells[1]? = some (.bool s.used) from rfl)
  have g1:=C1.out.slots.frozen (i*4+1)
  obtain ⟨w2,hw2⟩:∃ w2,w1.setCell ⟨gs,i*4+1,none⟩ (.bool true)=w2:=⟨_,rfl⟩
  have hg2:w1.grownBy w2 (some gs):=by rw [<-hw2]; exact grownBy_setB (World.grownBy.refl _ _) _ _
  have hO2:OnlyIn [gs] w1 w2:=OnlyIn.of_grown hg2 (List.mem_singleton.2 rfl)
  have hX2:Blk w2 gs 247 (dY (v.SL.set i { s with used:=true })):=by
   have hh:=C1.out.slots.set_ (i*4+1) (.bool true)
   rw [vF v.SL i s 1 (.bool true) { s with used:=true } hs (by omega) rfl] at hh
   rw [<-hw2]; exact hh
  have hl2:(v.SL.set i { s with used:=true }).length=v.SL.length:=List.length_set
  have C2:=hid (show CacheAt w2 gc gd gs { v with hits:=v.hits+1,SL:=v.SL.set i { s with used:=true } } from by
   refine ⟨?_,hX2,by show (v.SL.set i _).length<=_; rw [hl2]; exact h.cache.many,by show 0 < (v.SL.set i _).length; rw [hl2]; exact h.cache.one,by show v.hand < (v.SL.set i _).length; rw [hl2]; exact h.cache.hand,h.cache.tries⟩
   have hh:=hO2.heap C1.out.head (by simpa using ncs)
   unfold CacheV.cells at hh ⊢
   simp only [hl2]
   exact hh)
  have D2:=hid (D1.out.only hO2 (by simpa using nsd.symm) (by simpa using nms) (fun ad had=>by simpa using (h.img ad had).2.1))
  have Y2:=hid (hO2.heap Y1.out (fun hm=>cL C1.out.slots Y1.out (by decide) (List.mem_singleton.1 hm).symm))
  have hs2:(v.SL.set i { s with used:=true })[i]? = some { s with used:=true }:=List.getElem?_set_self (List.getElem?_eq_some_iff.1 hs).1
  have d52:w2.cell? ⟨gc,5,none⟩=some (.slice (some ⟨gs,0,none⟩) n n):=by rw [<-hn,<-hl2]; exact (C2.out.head.cell 5).trans rfl
  have q3:w2.cell? ⟨gs,i*4+3,none⟩=some (.slice (some ⟨gb,0,none⟩) 64 64):=by
   have hh:=C2.out.slot hs2 3 (show (SlotV.cells { s with used:=true })[3]? = some (.slice s.a s.len s.cap) from rfl)
   rw [e3,e4,e5] at hh
   exact hh
  have HOk:=hid (show CacheOk w2 bs gc gd gs Ai gm (K+1) rd { v with hits:=v.hits+1,SL:=v.SL.set i { s with used:=true } } from ⟨C2.out,D2.out,h.img,fun x hx=>by
   have hx1:GoodS4 w1 bs x:=by
    rcases List.mem_or_eq_of_mem_set hx with hx | rfl
    ·exact F1.out x hx
    ·exact fun _=>F1.out s (List.mem_of_getElem? hs) hfu
   exact hx1.only hO2 (HSt.out w1 _ C1.out).2.1,⟨⟨by show 0<=v.hits+1; omega,by show v.hits+1<=_; push_cast; omega⟩,⟨hcn.2.1.1,by show v.misses<=_; push_cast; omega⟩,⟨hcn.2.2.1.1,by show v.tries<=_; push_cast; omega⟩,⟨hcn.2.2.2.1,by push_cast; omega⟩⟩⟩)
  have HO:=hid (show OnlyIn [gc,gs,gd] w w2 from (hO1.more (by simp)).trans (hO2.more (by simp)))
  have HFr:=hid (show FreshS w v { v with hits:=v.hits+1,SL:=v.SL.set i { s with used:=true } } from fun x hx hxf=>by
   rcases List.mem_or_eq_of_mem_set hx with hx | rfl
   ·exact .inl ⟨x,hx,hxf,rfl⟩
   ·exact .inl ⟨s,List.mem_of_getElem? hs,hfu,rfl⟩)
  have t1:(i:Int) < (n:Int):=by omega
  have t2:(0:Int)<=(i:Int):=by omega
  have t3:((i:Int) ≥ 0):=by omega
  clear h hF hs hfu hpg e1 e3 e4 e5 hY hg1 hO1 hX1 hg2 hO2 hX2 hl2 hs2 hDb ncd nsd ncs nmc nms hcn hn
  go_enter Tryz.func105,Tryz.ntmps105
  go_wp2_with (go_at_call 145; refine HFi.out.mono ?_; rintro e w' ⟨rfl,rfl⟩)
  exact HG.out _ _ ⟨gb,rd,_,rfl,Y2.out,HOk.out,HO.out,HFr.out⟩
 ·rw [hF] at HFi
  have c1:w.cell? ⟨gc,1,none⟩=some (.int .i64 v.misses):=(h.cache.head.cell 1).trans rfl
  have f1:=h.cache.head.frozen 1
  have hwm:IntKind.i64.wrap (v.misses+1)=v.misses+1:=IntWalk.i64_in _ (by omega)
  obtain ⟨w1,hw1⟩:∃ w1,w.setCell ⟨gc,1,none⟩ (.int .i64 (v.misses+1))=w1:=⟨_,rfl⟩
  have hg1:w.grownBy w1 (some gc):=by rw [<-hw1]; exact grownBy_setB (World.grownBy.refl _ _) _ _
  have hO1:OnlyIn [gc] w w1:=OnlyIn.of_grown hg1 (List.mem_singleton.2 rfl)
  have hX1:Blk w1 gc 188 (CacheV.cells { v with misses:=v.misses+1 } gd gs):=by rw [<-hw1]; exact h.cache.head.set_ 1 _
  have C1:=hid (show CacheAt w1 gc gd gs { v with misses:=v.misses+1 } from ⟨hX1,hO1.heap h.cache.slots (by simpa using ncs.symm),h.cache.many,h.cache.one,h.cache.hand,h.cache.tries⟩)
  have D1:=hid (h.disk.only hO1 (by simpa using ncd.symm) (by simpa using nmc) (fun ad had=>by simpa using (h.img ad had).1))
  have F1:=hid (fun x hx=>(h.full x hx).only hO1 (HSt.out w v h.cache).1)
  have HT:=hid (KQ w1 gc gd gs bs rd Ai gm { v with misses:=v.misses+1 } p C1.out D1.out hl hp hb h.img ⟨hcn.2.2.2.1,by omega⟩ ⟨hcn.2.2.1.1,by show v.tries<=_; omega⟩)
  have O1:=hid hO1
  have Hcn:=hid hcn
  have HFs:=hid (show (Tryz.prog.info? 247).map (·.size)=some 4 by kernel_rfl)
  unfold aCw at HT
  clear h hF hg1 hO1 hX1 hDb ncd nsd ncs nmc nms hcn hn c5
  go_enter Tryz.func105,Tryz.ntmps105
  go_wp2_with (first | (go_at_call 145; refine HFi.out.mono ?_; rintro e w' ⟨rfl,rfl⟩) | (go_at_call 146; fail))
  refine HT.out.mono ?_
  rintro e w2 ⟨gb,rfl,hgb,hY,hD2,hC2,hO2⟩
  have C2:=hid hC2
  have D2:=hid hD2
  have Y2:=hid hY
  have Hgb:=hid (Nat.le_trans O1.out.size hgb)
  have O2:=hid hO2
  have F2:=hid (fun x hx=>(F1.out x hx).only hO2 (fun g hg=>by
   rcases List.mem_cons.1 hg with rfl | hg
   ·exact ⟨_,_,by decide,C1.out.head⟩
   ·rw [List.mem_singleton.1 hg]
    obtain ⟨cd1,hd1⟩:=D1.out.blk
    exact ⟨_,_,by decide,hd1⟩))
  clear hgb hY hD2 hC2 hO2 HT
  go_wp2_with fail
  refine wp_region_any (by kernel_rfl) ?_
  change wpAny _ _ _ _ _ _ _ (World.drew _)
  obtain ⟨w8,hw8⟩:∃ w8,w2.drew=w8:=⟨_,rfl⟩
  have B8:=hid (show Below w2.heap.size w2 w8 by rw [<-hw8]; exact (Below.refl w2.heap.size w2).drew)
  have C8:=hid (C2.out.below B8.out)
  have HV8:=hid (AS w8 gc gd gs _ C8.out)
  unfold A6 at HV8
  have x8:w8.cell? ⟨gc,5,none⟩=some (.slice (some ⟨gs,0,none⟩) n n):=by rw [<-Hn.out]; exact (C8.out.head.cell 5).trans rfl
  have HFin:=hid (show ∀ w9 v9 i9,i9 < n->SameV { v with misses:=v.misses+1,tries:=v.tries+1 } v9->CacheAt w9 gc gd gs v9->OnlyIn [gc,gs] w8 w9->∃ v',Blk (w9.setRow gs (dY (v9.SL.set i9 ⟨p,true,true,some ⟨gb,0,none⟩,64,64⟩)).toArray) gb 5 (u8s (iD bs p))/\CacheOk (w9.setRow gs (dY (v9.SL.set i9 ⟨p,true,true,some ⟨gb,0,none⟩,64,64⟩)).toArray) bs gc gd gs Ai gm (K+1) (rd+1) v'/\OnlyIn [gc,gs,gd] w (w9.setRow gs (dY (v9.SL.set i9 ⟨p,true,true,some ⟨gb,0,none⟩,64,64⟩)).toArray)/\FreshS w v v' from fun w9 v9 i9 hi9 hS hC9 hO9=>by
   have hl9:v9.SL.length=n:=by rw [hS.len]; exact Hn.out
   have hX:=bB w9 gs _ _ (dY (v9.SL.set i9 ⟨p,true,true,some ⟨gb,0,none⟩,64,64⟩)).toArray hC9.slots
   have hO:OnlyIn [gs] w9 (w9.setRow gs (dY (v9.SL.set i9 ⟨p,true,true,some ⟨gb,0,none⟩,64,64⟩)).toArray):=OnlyIn.of_grown (cZ (World.grownBy.refl w9 (some gs)) _) (List.mem_singleton.2 rfl)
   generalize w9.setRow gs (dY (v9.SL.set i9 ⟨p,true,true,some ⟨gb,0,none⟩,64,64⟩)).toArray=wx at *
   have hne:=Hne.out
   have him:=H.out.img
   have hcn:=Hcn.out
   have hls:(v9.SL.set i9 ⟨p,true,true,some ⟨gb,0,none⟩,64,64⟩).length=v9.SL.length:=List.length_set
   have hY9:=hO9.heap (Y2.out.below B8.out Y2.out.lt) (fun hm=>by
    rcases List.mem_cons.1 hm with e | e
    ·exact cL C2.out.head Y2.out (by decide) e.symm
    ·exact cL C2.out.slots Y2.out (by decide) (List.mem_singleton.1 e).symm)
   have hYx:=hO.heap hY9 (fun e=>cL C2.out.slots Y2.out (by decide) (List.mem_singleton.1 e).symm)
   have hD9:=(D2.out.later B8.out).only hO9 (by simp; exact ⟨hne.1.symm,hne.2.1.symm⟩) (by simp; exact ⟨hne.2.2.2.1,hne.2.2.2.2⟩) (fun ad had=>by simp; exact ⟨(him ad had).1,(him ad had).2.1⟩)
   have hDx:=hD9.only hO (by simpa using hne.2.1.symm) (by simpa using hne.2.2.2.2) (fun ad had=>by simpa using (him ad had).2.1)
   have hF8:∀ s ∈ v.SL,GoodS4 w8 bs s:=fun s hs=>(F2.out s hs).only (OnlyIn.of_below [] B8.out) (fun g hg=>absurd hg (by simp))
   have hF9:∀ s ∈ v.SL,GoodS4 w9 bs s:=fun s hs=>(hF8 s hs).only hO9 (HSt.out w8 _ C8.out).2.2
   have hFv:=hS.good hF9
   have hFx:∀ s ∈ v9.SL,GoodS4 wx bs s:=fun s hs=>(hFv s hs).only hO (HSt.out w9 _ hC9).2.1
   refine ⟨{ v9 with SL:=v9.SL.set i9 ⟨p,true,true,some ⟨gb,0,none⟩,64,64⟩ },hYx,⟨⟨?_,hX,by show (v9.SL.set i9 _).length<=_; rw [hls]; exact hC9.many,by show 0 < (v9.SL.set i9 _).length; rw [hls]; exact hC9.one,by show v9.hand < (v9.SL.set i9 _).length; rw [hls]; exact hC9.hand,hC9.tries⟩,hDx,him,?_,?_⟩,?_⟩
   ·have hh:=hO.heap hC9.head (by simpa using hne.2.2.1)
    unfold CacheV.cells at hh ⊢
    simp only [hls]
    exact hh
   ·intro s hs
    rcases List.mem_or_eq_of_mem_set hs with hs | rfl
    ·exact hFx s hs
    ·exact fun _=>⟨p,gb,rfl,hp,rfl,rfl,rfl,hYx⟩
   ·have e1:v9.hits=v.hits:=hS.hits
    have e2:v9.misses=v.misses+1:=hS.misses
    have e3:v9.tries=v.tries+1:=hS.tries
    refine ⟨⟨by show 0<=v9.hits; omega,by show v9.hits<=_; push_cast; omega⟩,⟨by show 0<=v9.misses; omega,by show v9.misses<=_; push_cast; omega⟩,⟨by show 0<=v9.tries; omega,by show v9.tries<=_; push_cast; omega⟩,⟨by omega,by push_cast; omega⟩⟩
   refine ⟨?_,fun x hx hxf=>?_⟩
   rotate_left
   ·rcases List.mem_or_eq_of_mem_set hx with hx | rfl
    ·have hm:x.strip ∈ v.SL.map SlotV.strip:=by
      have e:v9.SL.map SlotV.strip=v.SL.map SlotV.strip:=hS.slots
      rw [<-e]; exact List.mem_map.2 ⟨x,hx,rfl⟩
     obtain ⟨s0,hs0,he⟩:=List.mem_map.1 hm
     have e2:s0.full=x.full:=congrArg (fun z=>z.2.1) he
     have e3:s0.a=x.a:=congrArg (fun z=>z.2.2.1) he
     exact .inl ⟨s0,hs0,by rw [e2]; exact hxf,e3⟩
    ·exact .inr ⟨gb,rfl,Hgb.out⟩
   ·exact (((O1.out.more (by simp)).trans (O2.out.more (by simp))).trans (OnlyIn.of_below _ B8.out)).trans ((hO9.more (by simp)).trans (hO.more (by simp))))
  rw [hw8]
  clear hw8
  refine wpAny_take (i:=0) (v:=?_) rfl (by kernel_rfl) (by kernel_rfl) (by kernel_rfl) (fun _ _ _ h=>h) (Or.inl ⟨by rfl,?_⟩) ?_
  rotate_left
  ·intro w; go_simp; try (with_reducible rfl)
  simp only [Act.put,List.getElem_toArray,List.getElem_cons_zero,List.setIfInBounds_toArray,List.set_cons_succ,List.set_cons_zero]
  refine wpAny_take (i:=1) (v:=?_) rfl (by kernel_rfl) (by kernel_rfl) (by kernel_rfl) (fun _ _ _ h=>h) (Or.inl ⟨by rfl,?_⟩) ?_
  rotate_left
  ·intro w; go_simp; try (with_reducible rfl)
  simp only [Act.put,List.getElem_toArray,List.getElem_cons_succ,List.getElem_cons_zero,List.setIfInBounds_toArray,List.set_cons_succ,List.set_cons_zero]
  refine wpAny_take (i:=2) (v:=?_) rfl (by kernel_rfl) (by kernel_rfl) (by kernel_rfl) (fun _ _ _ h=>h) (Or.inl ⟨by rfl,?_⟩) ?_
  rotate_left
  ·intro w; go_simp; try (with_reducible rfl)
  simp only [Act.put,List.getElem_toArray,List.getElem_cons_succ,List.getElem_cons_zero,List.setIfInBounds_toArray,List.set_cons_succ,List.set_cons_zero]
  refine wpAny_take (i:=4) (v:=?_) rfl (by kernel_rfl) (by kernel_rfl) (by kernel_rfl) (fun _ _ _ h=>h) (Or.inl ⟨by rfl,?_⟩) ?_
  rotate_left
  ·intro w; go_simp; try (with_reducible rfl)
  simp only [Act.put,List.getElem_toArray,List.getElem_cons_succ,List.getElem_cons_zero,List.setIfInBounds_toArray,List.set_cons_succ,List.set_cons_zero]
  refine wpAny_take (i:=6) (v:=?_) rfl (by kernel_rfl) (by kernel_rfl) (by kernel_rfl) (fun _ _ _ h=>h) (Or.inl ⟨by rfl,?_⟩) ?_
  rotate_left
  ·intro w; go_simp; try (with_reducible rfl)
  simp only [Act.put,List.getElem_toArray,List.getElem_cons_succ,List.getElem_cons_zero,List.setIfInBounds_toArray,List.set_cons_succ,List.set_cons_zero]
  refine wpAny_take (i:=7) (v:=?_) rfl (by kernel_rfl) (by kernel_rfl) (by kernel_rfl) (fun _ _ _ h=>h) (Or.inl ⟨by rfl,?_⟩) ?_
  rotate_left
  ·intro w; go_simp; try (with_reducible rfl)
  simp only [Act.put,List.getElem_toArray,List.getElem_cons_succ,List.getElem_cons_zero,List.setIfInBounds_toArray,List.set_cons_succ,List.set_cons_zero]
  refine wpAny_take (i:=8) (v:=?_) rfl (by kernel_rfl) (by kernel_rfl) (by kernel_rfl) (fun _ _ _ h=>h) (Or.inl ⟨by rfl,?_⟩) ?_
  rotate_left
  ·intro w; go_simp; try (with_reducible rfl)
  simp only [Act.put,List.getElem_toArray,List.getElem_cons_succ,List.getElem_cons_zero,List.setIfInBounds_toArray,List.set_cons_succ,List.set_cons_zero]
  refine wpAny_ready (rs:=[3,5]) (by kernel_rfl) (by simp) ?_
  refine AllReady.cons rfl (fun K hK=>?_) (AllReady.cons rfl (fun K hK=>?_) AllReady.nil)
  ·try go_simp
   refine hK _ _ ?_
   clear hK K
   try simp only [Act.put,List.getElem_toArray,List.getElem_cons_succ,List.getElem_cons_zero,List.setIfInBounds_toArray,List.set_cons_succ,List.set_cons_zero]
   refine wpAny_ready (rs:=[5]) (by kernel_rfl) (by simp) ?_
   refine AllReady.cons rfl (fun K hK=>?_) AllReady.nil
   try go_simp
   go_wp2_with (go_at_call 147; refine HV8.out.mono ?_; rintro e w9 ⟨i9,v9,rfl,hi9,hsv9,hC9,hO9⟩)
   have hi9n:i9 < n:=by rw [<-Hn.out]; exact hi9
   have hl9:v9.SL.length=n:=by rw [hsv9.len]; exact Hn.out
   have x9:w9.cell? ⟨gc,5,none⟩=some (.slice (some ⟨gs,0,none⟩) n n):=by rw [<-hl9]; exact (hC9.head.cell 5).trans rfl
   have HF9:=hid (HFin.out w9 v9 i9 hi9n hsv9 hC9 hO9)
   have C9:=hid hC9
   have Hl9:=hid hl9
   clear hi9 hsv9 hC9 hO9 hl9 HV8
   have t1:(i9:Int) < (n:Int):=by omega
   have t2:(0:Int)<=(i9:Int):=by omega
   refine wpAny_take (i:=9) (v:=?_) rfl (by kernel_rfl) (by kernel_rfl) (by kernel_rfl) (fun _ _ _ h=>h) (Or.inl ⟨by rfl,?_⟩) ?_
   rotate_left
   ·intro w; go_simp; try (with_reducible rfl)
   simp only [Act.put,List.getElem_toArray,List.getElem_cons_succ,List.getElem_cons_zero,List.setIfInBounds_toArray,List.set_cons_succ,List.set_cons_zero]
   refine wpAny_ready (rs:=[10]) (by kernel_rfl) (by simp) ?_
   refine AllReady.cons rfl (fun K hK=>?_) AllReady.nil
   refine pR 247 (.tmp 74) (.tmp 73) rfl gs (i9*4) rfl 247 (dY v9.SL) (SlotV.cells ⟨p,true,true,some ⟨gb,0,none⟩,64,64⟩) rfl C9.out.slots HFs.out (by rw [nI,Hl9.out]; show i9*4+4<=_; omega) (by intro x hx; simp only [SlotV.cells,List.mem_cons,List.not_mem_nil,or_false] at hx; rcases hx with rfl | rfl | rfl | rfl <;> rfl) ?_
   rw [FF (by rw [Hl9.out]; exact hi9n)]
   refine hK _ _ ?_
   refine wpAny_done (by kernel_rfl) ?_ _
   obtain ⟨v',h1,h2,h3,h4⟩:=HF9.out
   have HE:=hid (HG.out _ _ ⟨gb,_,v',rfl,h1,h2,h3,h4⟩)
   clear h1 h2 h3 h4 HF9
   go_wp2
   exact HE.out
  ·try go_simp
   go_wp2_with (go_at_call 147; refine HV8.out.mono ?_; rintro e w9 ⟨i9,v9,rfl,hi9,hsv9,hC9,hO9⟩)
   have hi9n:i9 < n:=by rw [<-Hn.out]; exact hi9
   have hl9:v9.SL.length=n:=by rw [hsv9.len]; exact Hn.out
   have x9:w9.cell? ⟨gc,5,none⟩=some (.slice (some ⟨gs,0,none⟩) n n):=by rw [<-hl9]; exact (hC9.head.cell 5).trans rfl
   have HF9:=hid (HFin.out w9 v9 i9 hi9n hsv9 hC9 hO9)
   have C9:=hid hC9
   have Hl9:=hid hl9
   clear hi9 hsv9 hC9 hO9 hl9 HV8
   refine wpAny_ready (rs:=[3]) (by kernel_rfl) (by simp) ?_
   refine AllReady.cons rfl (fun K hK=>?_) AllReady.nil
   try go_simp
   refine hK _ _ ?_
   clear hK K
   try simp only [Act.put,List.getElem_toArray,List.getElem_cons_succ,List.getElem_cons_zero,List.setIfInBounds_toArray,List.set_cons_succ,List.set_cons_zero]
   have t1:(i9:Int) < (n:Int):=by omega
   have t2:(0:Int)<=(i9:Int):=by omega
   refine wpAny_take (i:=9) (v:=?_) rfl (by kernel_rfl) (by kernel_rfl) (by kernel_rfl) (fun _ _ _ h=>h) (Or.inl ⟨by rfl,?_⟩) ?_
   rotate_left
   ·intro w; go_simp; try (with_reducible rfl)
   simp only [Act.put,List.getElem_toArray,List.getElem_cons_succ,List.getElem_cons_zero,List.setIfInBounds_toArray,List.set_cons_succ,List.set_cons_zero]
   refine wpAny_ready (rs:=[10]) (by kernel_rfl) (by simp) ?_
   refine AllReady.cons rfl (fun K hK=>?_) AllReady.nil
   refine pR 247 (.tmp 74) (.tmp 73) rfl gs (i9*4) rfl 247 (dY v9.SL) (SlotV.cells ⟨p,true,true,some ⟨gb,0,none⟩,64,64⟩) rfl C9.out.slots HFs.out (by rw [nI,Hl9.out]; show i9*4+4<=_; omega) (by intro x hx; simp only [SlotV.cells,List.mem_cons,List.not_mem_nil,or_false] at hx; rcases hx with rfl | rfl | rfl | rfl <;> rfl) ?_
   rw [FF (by rw [Hl9.out]; exact hi9n)]
   refine hK _ _ ?_
   refine wpAny_done (by kernel_rfl) ?_ _
   obtain ⟨v',h1,h2,h3,h4⟩:=HF9.out
   have HE:=hid (HG.out _ _ ⟨gb,_,v',rfl,h1,h2,h3,h4⟩)
   clear h1 h2 h3 h4 HF9
   go_wp2
   exact HE.out
end
section
open Go.RowKit Go.Lib
theorem OnlyIn.grown {S:List Nat} {w w1 w2:World} {ow:Option Nat} (h:OnlyIn S w w1) (hg:w1.grownBy w2 ow) (ho:∀ k,ow=some k->w.heap.size<=k):OnlyIn S w w2 :=
 ⟨hg.os.trans h.os,hg.tape.trans h.tape,hg.output.trans h.output,Nat.le_trans h.size hg.size,fun j h1 h2=>(hg.block j (Nat.lt_of_lt_of_le h1 h.size) (fun e=>by have:=ho j e.symm; omega)).trans (h.block j h1 h2)⟩
theorem OnlyIn.of_own {w w':World} {ow:Option Nat} (h:w.grownBy w' ow):OnlyIn ow.toList w w' :=
 ⟨h.os,h.tape,h.output,h.size,fun j h1 h2=>h.block j h1 (fun e=>h2 (by rw [<-e]; simp))⟩
theorem GoodS4.notin {w w':World} {bs:List Nat} {s:SlotV} {S:List Nat} (h:GoodS4 w bs s) (hO:OnlyIn S w w') (hS:∀ g',s.a=some ⟨g',0,none⟩->g' ∉ S):GoodS4 w' bs s:=fun hf=>by
 obtain ⟨p,gb,h1,h2,h3,h4,h5,h6⟩:=h hf
 exact ⟨p,gb,h1,h2,h3,h4,h5,hO.heap h6 (hS gb h3)⟩
theorem CacheOk.only {w w':World} {bs:List Nat} {gc gd gs:Nat} {Ai:Option Addr} {gm K:Nat} {rd:Int} {v:CacheV} {S:List Nat} (h:CacheOk w bs gc gd gs Ai gm K rd v) (hO:OnlyIn S w w') (h1:gc ∉ S) (h2:gs ∉ S) (h3:gd ∉ S) (h4:gm ∉ S)
  (h5:∀ ad,Ai=some ad->ad.block ∉ S) (h6:∀ s ∈ v.SL,s.full=true->∀ g',s.a=some ⟨g',0,none⟩->g' ∉ S):CacheOk w' bs gc gd gs Ai gm K rd v :=
 ⟨h.cache.only hO h1 h2,h.disk.only hO h3 h4 h5,h.img,fun s hs hf=>(h.full s hs).notin hO (h6 s hs hf) hf,h.cnt⟩
theorem CacheOk.later {w w':World} {bs:List Nat} {gc gd gs:Nat} {Ai:Option Addr} {gm K:Nat} {rd:Int} {v:CacheV} (h:CacheOk w bs gc gd gs Ai gm K rd v) (hb:Below w.heap.size w w'):CacheOk w' bs gc gd gs Ai gm K rd v :=
 h.only (OnlyIn.of_below [] hb) (by simp) (by simp) (by simp) (by simp) (fun _ _=>by simp) (fun _ _ _ _ _=>by simp)
theorem CacheOk.more {w:World} {bs:List Nat} {gc gd gs:Nat} {Ai:Option Addr} {gm K K':Nat} {rd:Int} {v:CacheV} (h:CacheOk w bs gc gd gs Ai gm K rd v) (hK:K<=K'):CacheOk w bs gc gd gs Ai gm K' rd v :=
 ⟨h.cache,h.disk,h.img,h.full,by have:=h.cnt; omega⟩
theorem FreshS.refl (w:World) (v:CacheV):FreshS w v v:=fun s hs hf=>.inl ⟨s,hs,hf,rfl⟩
theorem FreshS.trans {w w1:World} {v v1 v2:CacheV} (h:FreshS w v v1) (k:FreshS w1 v1 v2) (hs:w.heap.size<=w1.heap.size):FreshS w v v2:=fun s hm hf=>by
 rcases k s hm hf with ⟨s0,h0,f0,e0⟩ | ⟨g',e,hg⟩
 ·rcases h s0 h0 f0 with ⟨s1,h1,f1,e1⟩ | ⟨g',e,hg⟩
  ·exact .inl ⟨s1,h1,f1,e1.trans e0⟩
  ·exact .inr ⟨g',e0.symm.trans e,hg⟩
 ·exact .inr ⟨g',e,Nat.le_trans hs hg⟩
theorem aCd (bs:List Nat) (o n m:Nat):cA bs o (n+m)=cA bs o n ++ cA bs (o+n) m:=by
 refine List.ext_getElem? fun j=>?_
 by_cases hj:j < n
 ·rw [List.getElem?_append_left (by rw [eO]; exact hj),gR hj,gR (by omega)]
 ·by_cases hj2:j < n+m
  ·rw [List.getElem?_append_right (by rw [eO]; omega),eO,gR hj2,gR (by omega),show o+n+(j - n)=o+j by omega]
  ·rw [List.getElem?_eq_none (by rw [eO]; omega),List.getElem?_eq_none (by rw [List.length_append,eO,eO]; omega)]
theorem yH {w:World} {base:Nat} {e:TypeId} {size n:Nat} {v:Value} {xs:List Value} (h:w.ownsRow base e size v n xs) {g:Nat} (hg:v.ownBlock=some g):base<=g/\g < w.heap.size:=by
 rcases h.2 with ⟨rfl,_⟩ | ⟨g',cap',cur,rfl,hb,hh,_⟩
 ·cases hg
 ·have e1:g'=g:=Option.some.inj hg
  subst e1
  exact ⟨hb,hlt hh⟩
theorem aB1 {w w':World} {base:Nat} {e:TypeId} {size n:Nat} {v:Value} {xs:List Value} {S:List Nat} (h:w.ownsRow base e size v n xs) (hO:OnlyIn S w w') (hS:∀ x ∈ S,x < base):w'.ownsRow base e size v n xs:=by
 refine ⟨h.1,?_⟩
 rcases h.2 with hn | ⟨g',cap',cur,hv,hb,hh,hr⟩
 ·exact .inl hn
 ·exact .inr ⟨g',cap',cur,hv,hb,hO.heap hh (fun hm=>by have:=hS g' hm; omega),hr⟩
theorem aDd {w:World} {gb r:Nat} {t:TypeId} {vs news:List Value} (h:Blk w gb t vs) (hn:∀ (j:Nat) v,news[j]? = some v->vs[r+j]? = some v):Row w w.heap.size (some ⟨gb,r,none⟩) news:=fun j v hv=>⟨gb,r,rfl,h.lt,(h.cell (r+j)).trans (hn j v hv)⟩
theorem tK (w:World) (gc gd gs:Nat) (v:CacheV) (h:CacheAt w gc gd gs v):Calls Tryz.prog 103 #[.pointer (some ⟨gc,0,none⟩)] w fun e w'=>e=.returned (.bool false)/\w=w':=by
 have c4:w.cell? ⟨gc,4,none⟩=some (.pointer (some ⟨gd,0,none⟩)):=(h.head.cell 4).trans rfl
 clear h
 go_enter Tryz.func103,Tryz.ntmps103
 go_wp2
 go_ret
 exact ⟨rfl,rfl⟩
theorem GG (w:World) (gc gd gs:Nat) (v:CacheV) (h:CacheAt w gc gd gs v):Calls Tryz.prog 89 #[.pointer (some ⟨gc,0,none⟩)] w fun e w'=>e=.returned (.pointer (some ⟨gd,0,none⟩))/\w=w':=by
 have HN:=hid (tK w gc gd gs v h)
 have c4:w.cell? ⟨gc,4,none⟩=some (.pointer (some ⟨gd,0,none⟩)):=(h.head.cell 4).trans rfl
 clear h
 go_enter Tryz.func89,Tryz.ntmps89
 go_wp2_with (go_at_call 103; refine HN.out.mono ?_; rintro e w' ⟨rfl,rfl⟩)
 go_ret
 exact ⟨rfl,rfl⟩
def M8 (w:World) (bs:List Nat) (gc gd gs:Nat) (Ai:Option Addr) (gm:Nat) (K:Nat) (v:CacheV) (o n:Nat) (e:Ending) (w':World):Prop :=
 ∃ A cap rd' v',e=.returned (.tuple #[.slice A n cap,.int .i64 0])/\w'.ownsRow w.heap.size 5 1 (.slice A n cap) n (u8s (cA bs o n))/\CacheOk w' bs gc gd gs Ai gm (K+n) rd' v'/\OnlyIn [gc,gs,gd] w w'/\FreshS w v v'
theorem GJ (w:World) (bs:List Nat) (gc gd gs:Nat) (Ai:Option Addr) (gm K:Nat) (rd:Int) (v:CacheV) (o n:Nat) (h:CacheOk w bs gc gd gs Ai gm K rd v) (hK:K+n<=1000000000000000) (hl:bs.length<=4194304) (h64:bs.length % 64=0) (hp:o+n<=bs.length) (h0:0 < bs.length) (hb:Byt bs) :
  Calls Tryz.prog 39 #[.pointer (some ⟨gc,0,none⟩),.int .i64 o,.int .i64 n] w (M8 w bs gc gd gs Ai gm K v o n):=by
 have HN:=hid (tK w gc gd gs v h.cache)
 have HPg:=hid (tL w gd bs rd Ai gm h.disk hl)
 have HF:=hid (show ∀ e w',(∃ A cap rd' v',e=.returned (.tuple #[.slice A n cap,.int .i64 0])/\w'.ownsRow w.heap.size 5 1 (.slice A n cap) n (u8s (cA bs o n))/\CacheOk w' bs gc gd gs Ai gm (K+n) rd' v'/\OnlyIn [gc,gs,gd] w w'/\FreshS w v v')->M8 w bs gc gd gs Ai gm K v o n e w' from fun _ _ h=>h)
 obtain ⟨i0,hi,hz0,hi1,hi2⟩:=info_parts rS
 have c4:w.cell? ⟨gc,4,none⟩=some (.pointer (some ⟨gd,0,none⟩)):=(h.cache.head.cell 4).trans rfl
 have hlts:gc < w.heap.size/\gs < w.heap.size/\gd < w.heap.size/\gm < w.heap.size/\(∀ ad,Ai=some ad->ad.block < w.heap.size):=by
  obtain ⟨b0,hb0⟩:∃ b0,bs[0]? = some b0:=⟨_,List.getElem?_eq_getElem h0⟩
  obtain ⟨bi,oi,hA,hbi,_⟩:=h.disk.2.1 0 _ (d9 hb0)
  obtain ⟨cd,hd⟩:=h.disk.blk
  refine ⟨h.cache.head.lt,h.cache.slots.lt,hd.lt,hlt h.disk.2.2,fun ad had=>?_⟩
  rw [hA] at had
  injection had with had
  rw [<-had]; exact hbi
 obtain ⟨ln,hln⟩:∃ ln,bs.length=ln:=⟨_,rfl⟩
 rw [hln] at hp h64 hl h0 HPg
 obtain ⟨pg,hpg⟩:∃ pg,(ln+63) / 64=pg:=⟨_,rfl⟩
 rw [hpg] at HPg
 have hpl:(pg:Int)*64=(ln:Int):=by omega
 have hwl:IntKind.i64.wrap (ln:Int)=(ln:Int):=IntWalk.i64_in _ (by omega)
 have hws:IntKind.i64.wrap ((ln:Int) - (o:Int))=(ln:Int) - (o:Int):=IntWalk.i64_in _ (by omega)
 have t1:¬ ((o:Int) < 0):=by omega
 have t2:¬ ((n:Int) < 0):=by omega
 have t3:¬ ((o:Int) > (ln:Int)):=by omega
 have t4:¬ ((n:Int) > (ln:Int) - (o:Int)):=by omega
 have t5:¬ ((ln:Int) < (o:Int)):=by omega
 have t6:¬ ((ln:Int) - (o:Int) < (n:Int)):=by omega
 have d1:decide ((o:Int) < 0)=false:=decide_eq_false t1
 have d2:decide ((n:Int) < 0)=false:=decide_eq_false t2
 have d3:decide ((o:Int) > (ln:Int))=false:=decide_eq_false t3
 have d5:decide ((ln:Int) < (o:Int))=false:=decide_eq_false t5
 have d6:decide ((ln:Int) - (o:Int) < (n:Int))=false:=decide_eq_false t6
 have d7:decide (ln < o)=false:=decide_eq_false (by omega)
 have d8:decide ((n:Int) > (ln:Int) - (o:Int))=false:=decide_eq_false t4
 have H:=hid h
 have Hln:=hid hln
 have Hlts:=hid hlts
 clear h hln hlts
 generalize M8 w bs gc gd gs Ai gm K v o n=SP at *
 go_enter Tryz.func39,Tryz.ntmps39
 go_wp2_with (first | (go_at_call 103; refine HN.out.mono ?_; rintro e w' ⟨rfl,rfl⟩) | (go_at_call 104; refine HPg.out.mono ?_; rintro e w' ⟨rfl,rfl⟩))
 go_loopw [1,2,8] (fun a r x wr=>∃ (k:Nat) (A:Option Addr) (c:Nat) (rd':Int) (v':CacheV),k<=n/\a=.int .i64 ((o+k:Nat):Int)/\r=.int .i64 ((n - k:Nat):Int)/\x=.slice A k c/\wr.ownsRow w.heap.size 5 1 (.slice A k c) k (u8s (cA bs o k))/\CacheOk wr bs gc gd gs Ai gm (K+k) rd' v'/\OnlyIn [gc,gs,gd] w wr/\FreshS w v v'/\(∀ s ∈ v'.SL,s.full=true->∀ g',s.a=some ⟨g',0,none⟩->some g' ≠ (Value.slice A k c).ownBlock)) (fun _ r _ _=>(intOf r).toNat)
 case atStart=>exact ⟨0,none,0,rd,v,by omega,rfl,by rfl,rfl,by have:=World.ownsRow_nil w w.heap.size 5 1; exact this,H.out,OnlyIn.refl _ _,FreshS.refl _ _,fun _ _ _ _ _ e=>by cases e⟩
 case round =>
  obtain ⟨k,A,c,rd1,v1,hk,rfl,rfl,rfl,hown,hC,hO,hFr,hS⟩:=hrel
  have Own:=hid hown
  have C1:=hid hC
  have O1:=hid hO
  have Fr1:=hid hFr
  have HS1:=hid hS
  by_cases ZG:k < n
  ·obtain ⟨a,ha⟩:∃ a,o+k=a:=⟨_,rfl⟩
   obtain ⟨z,hz⟩:∃ z,n - k=z:=⟨_,rfl⟩
   rw [ha,hz]
   obtain ⟨q,hq⟩:∃ q,a / 64=q:=⟨_,rfl⟩
   obtain ⟨r,hr⟩:∃ r,a % 64=r:=⟨_,rfl⟩
   have har:a=q*64+r:=by omega
   have hr64:r < 64:=by omega
   have HP:=hid (GI wr bs gc gd gs Ai gm (K+k) rd1 v1 q hC (by omega) (by rw [Hln.out]; exact hl) (by rw [Hln.out]; omega) hb)
   unfold aCt at HP
   obtain ⟨m,hm⟩:∃ m,min (64 - r) z=m:=⟨_,rfl⟩
   have hm1:0 < m:=by omega
   have hquo:(a:Int).tdiv 64=(q:Int):=by rw [<-hq]; rfl
   have hrem:(a:Int).tmod 64=(r:Int):=by rw [<-hr]; rfl
   have hwq:IntKind.i64.wrap (q:Int)=(q:Int):=IntWalk.i64_in _ (by omega)
   have hwr:IntKind.i64.wrap (r:Int)=(r:Int):=IntWalk.i64_in _ (by omega)
   have hmin:min ((64 - r:Nat):Int) (z:Int)=(m:Int):=by omega
   have hwa:IntKind.i64.wrap ((a:Int)+(m:Int))=(a:Int)+(m:Int):=IntWalk.i64_in _ (by omega)
   have hwz:IntKind.i64.wrap ((z:Int) - (m:Int))=(z:Int) - (m:Int):=IntWalk.i64_in _ (by omega)
   have u0:0 < z:=by omega
   have u1:(0:Int) < (z:Int):=by omega
   have u2:(r:Int)<=64:=by omega
   have u3:(m:Int)<=((64 - r:Nat):Int):=by omega
   have Hz:=hid hz
   have Ha:=hid ha
   have Hm:=hid hm
   have Har:=hid har
   clear hown hC hO hFr hS hz ha hq hr hm har
   go_wp2_with (go_at_call 105; fail)
   refine HP.out.mono ?_
   rintro e w2 ⟨gb,rd2,v2,rfl,hY,hC2,hO2,hFr2⟩
   have Y2:=hid hY
   have C2:=hid hC2
   have O2:=hid hO2
   have Fr2:=hid hFr2
   clear hY hC2 hO2 hFr2 HP
   have hlts:=Hlts.out
   have Own2:=hid (aB1 Own.out O2.out (fun x hx=>by
    simp only [List.mem_cons,List.not_mem_nil,or_false] at hx
    omega))
   have hpl64:(iD bs q).length=64:=eO _ _ _
   have Hnl:=hid (show (u8s (cA bs (o+k) m)).length=m by rw [jA,eO])
   have Hn1:=hid (qS (cA bs (o+k) m))
   have Hrow:=hid (show Row w2 w2.heap.size (some ⟨gb,r,none⟩) (u8s (cA bs (o+k) m)) from aDd Y2.out (fun j x hx=>by
    have hj:j < m:=by have:=(List.getElem?_eq_some_iff.1 hx).1; rw [Hnl.out] at this; exact this
    have hm:=Hm.out
    have hrj:r+j < 64:=by omega
    have e1:=d9 (gR (bs:=bs) (o:=o+k) hj)
    have e2:=d9 (gR (bs:=bs) (o:=64*q) hrj)
    rw [e1] at hx
    have hx:=Option.some.inj hx
    rw [<-hx]
    unfold iD
    rw [e2]
    have ha:=Ha.out
    have har:=Har.out
    rw [show 64*q+(r+j)=o+k+j by omega]))
   have Hcn:=hid (show k+m<=n by have:=Hm.out; have:=Hz.out; omega)
   have hkm:k+m<=4194304:=by have:=Hcn.out; omega
   clear hlts
   go_wp2_with (at_builtin; refine c9 _ rfl (.tmp 66) (.tmp 67) 30 rfl w.heap.size 5 i0 (.int .u8 0) 1 1 Tryz.underlying30 hi hz0 hi1 hi2 rfl (by omega) (.slice A k c) k (u8s (cA bs o k)) rfl Own2.out w2.heap.size (some ⟨gb,r,none⟩) m (64 - r) (u8s (cA bs (o+k) m)) rfl (by rw [Hnl.out]; omega) Hrow.out Hn1.out (by omega) (by omega) (Nat.le_trans O1.out.size O2.out.size) ?_; intro A3 c3 w3 hown3 hgr3 hat3 hcc3)
   have HR:=hid (show w3.ownsRow w.heap.size 5 1 (.slice A3 (k+m) c3) (k+m) (u8s (cA bs o (k+m)))/\CacheOk w3 bs gc gd gs Ai gm (K+(k+m)) rd2 v2/\OnlyIn [gc,gs,gd] w w3/\FreshS w v v2/\(∀ s ∈ v2.SL,s.full=true->∀ g',s.a=some ⟨g',0,none⟩->some g' ≠ (Value.slice A3 (k+m) c3).ownBlock) by
    have hlts:=Hlts.out
    have hb2:∀ x ∈ (Value.slice A k c).ownBlock.toList,w.heap.size<=x/\x < wr.heap.size:=fun x hx=>yH Own.out (by simpa using hx)
    have hlt2:∀ s ∈ v2.SL,s.full=true->∀ g',s.a=some ⟨g',0,none⟩->some g' ≠ (Value.slice A k c).ownBlock/\g' < w2.heap.size:=fun s hs hf g' hg'=>by
     have hin:g' < w2.heap.size:=by
      obtain ⟨p',gb',_,_,e3,_,_,hB⟩:=C2.out.full s hs hf
      rw [hg'] at e3
      injection e3 with e3
      injection e3 with e3
      rw [e3]; exact hB.lt
     refine ⟨fun e=>?_,hin⟩
     rcases Fr2.out s hs hf with ⟨s0,hs0,hf0,e0⟩ | ⟨g2,e2,hg2⟩
     ·exact HS1.out s0 hs0 hf0 g' (e0.trans hg') e
     ·rw [hg'] at e2
      injection e2 with e2
      injection e2 with e2
      have:=(yH Own.out e.symm).2
      omega
    have hC3:=C2.out.only (OnlyIn.of_own hgr3) (fun hm=>by have:=hb2 gc hm; omega) (fun hm=>by have:=hb2 gs hm; omega) (fun hm=>by have:=hb2 gd hm; omega) (fun hm=>by have:=hb2 gm hm; omega) (fun ad had hm=>by have:=hb2 _ hm; have:=hlts.2.2.2.2 ad had; omega) (fun s hs hf g' hg' hm=>(hlt2 s hs hf g' hg').1 (Option.mem_toList.1 hm).symm)
    refine ⟨?_,hC3.more (by omega),(O1.out.trans O2.out).grown hgr3 (fun x hx=>(yH Own.out hx).1),Fr1.out.trans Fr2.out O1.out.size,fun s hs hf g' hg' e=>?_⟩
    ·rw [aCd]
     have e:u8s (cA bs o k ++ cA bs (o+k) m)=u8s (cA bs o k) ++ u8s (cA bs (o+k) m):=by unfold u8s; rw [List.map_append]
     rw [e]
     exact hown3
    ·rcases hat3 with h1 | h1
     ·rw [h1] at e
      exact (hlt2 s hs hf g' hg').1 e
     ·rw [h1] at e
      have:=(hlt2 s hs hf g' hg').2
      injection e with e
      omega)
   clear hown3 hgr3 hat3
   go_wp2
   go_roundw
   case rel=>exact ⟨k+m,A3,c3,rd2,v2,Hcn.out,by have:=Ha.out; rw [show o+(k+m)=a+m by omega]; push_cast; rfl,by have:=Hz.out; have:=Hcn.out; rw [show ((n - (k+m):Nat):Int)=(z:Int) - (m:Int) by omega],rfl,HR.out.1,HR.out.2.1,HR.out.2.2.1,HR.out.2.2.2.1,HR.out.2.2.2.2⟩
   case measure=>first | (simp [intOf]; done) | (simp [intOf]; omega)
  ·obtain rfl:k=n:=by omega
   rw [Nat.sub_self]
   have HE:=hid (HF.out _ _ ⟨A,c,rd1,v1,rfl,Own.out,C1.out,O1.out,Fr1.out⟩)
   clear hown hC hO hFr hS
   go_wp2
   exact HE.out
end
end Go.Proofs.YtnbbfblaipjcmaaGreatDoor

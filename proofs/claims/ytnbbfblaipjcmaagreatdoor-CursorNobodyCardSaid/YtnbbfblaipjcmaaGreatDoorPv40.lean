/- WrF. Conditions: as each theorem states. -/
import Derived.Test.YtnbbfblaipjcmaaGreatDoorPv15
import Derived.Test.YtnbbfblaipjcmaaGreatDoorPv22
import Derived.Test.YtnbbfblaipjcmaaGreatDoorPv24
import Derived.Test.YtnbbfblaipjcmaaGreatDoorPv29
namespace Go.Proofs.YtnbbfblaipjcmaaGreatDoor
open Go.Lib (hid)
open Go.RowKit
theorem eD {f:FrameV} (h:RightF f) {size:Nat} (hsz:fT f<=8*(size:Int)):(aP f size).length=size:=by
 have hfl:=uP h
 unfold aP
 rw [List.length_append,gW,List.length_replicate]; omega
def jU (size:Nat) (fs:List FrameV):List Nat:=(fs.map fun f=>aP f size).flatten
theorem NM (size:Nat) (fs:List FrameV) (f:FrameV):jU size (fs ++ [f])=jU size fs ++ aP f size:=by simp [jU]
theorem uL {size:Nat}:∀ (fs:List FrameV),(∀ f ∈ fs,RightF f/\fT f<=8*(size:Int))->(jU size fs).length=fs.length*size
 | [],_=>by simp [jU]
 | f :: r,h=>by
  have h1:=h f (by simp)
  have:=uL r (fun x hx=>h x (by simp [hx]))
  unfold jU at *
  rw [List.map_cons,List.flatten_cons,List.length_append,this,eD h1.1 h1.2,List.length_cons,Nat.succ_mul]; omega
theorem aDj (a b:List Nat):u8s (a ++ b)=u8s a ++ u8s b:=by simp [u8s]
theorem TN (size:Int):(kF size)[32]? = some (.int .i64 size):=by kernel_rfl
def SH (W:World) (B:List Nat) (e:Ending) (w':World):Prop :=
 ∃ A c,e=.returned (.tuple #[.slice A B.length c,.int .i64 0])/\B.length<=c/\c<=9223372036854775807/\Row w' w'.heap.size A (u8s B)/\Below W.heap.size W w'/\∀ ad,A=some ad->W.heap.size<=ad.block
theorem Z5 {w:World} {base:Nat} {e:TypeId} {size n c:Nat} {A:Option Addr} {xs:List Value} (h:w.ownsRow base e size (.slice A n c) n xs):∀ ad,A=some ad->base<=ad.block:=by
 rcases h.2 with ⟨h1,_⟩ | ⟨g,cap,cur,h1,hb,_⟩
 ·injection h1 with h1
  subst h1
  exact nofun
 ·injection h1 with h1
  subst h1
  intro ad h
  injection h with h
  subst h
  exact hb
set_option maxRecDepth 100000 in
set_option maxHeartbeats 8000000 in
theorem J8 (gc size:Nat) (L:List (FrH × FrameV)) (A:Option Addr) (cap:Nat) (w:World) (hg:CoderAt w gc size) (hs:size<=96) (hc:L.length<=100000) (hA:FramesAt w A L) (hR:∀ p ∈ L,RightF p.2/\fT p.2<=8*(size:Int)) :
  Calls Tryz.prog 175 #[.pointer (some ⟨gc,0,none⟩),.slice A L.length cap] w (SH w (jU size (L.map Prod.snd))):=by
 obtain ⟨i0,hi,hz0,hz1,hz2⟩:=info_parts rS
 have hRf:∀ f ∈ L.map Prod.snd,RightF f/\fT f<=8*(size:Int):=fun f hf=>by
  obtain ⟨p,hp,rfl⟩:=List.mem_map.1 hf
  exact hR p hp
 have HBl:=hid (fun m=>(show (jU size ((L.take m).map Prod.snd)).length=(L.take m).length*size from by
  rw [uL _ (fun f hf=>by
   obtain ⟨p,hp,rfl⟩:=List.mem_map.1 hf
   exact hR p (List.mem_of_mem_take hp)),List.length_map]))
 obtain ⟨c,hcl⟩:∃ c,L.length=c:=⟨_,rfl⟩
 have HBa:=hid (show (jU size (L.map Prod.snd)).length=c*size by rw [uL _ hRf,List.length_map,hcl])
 have Hcl:=hid hcl
 rw [hcl] at hc ⊢
 have HA:=hid hA
 have HR:=hid hR
 have Hg:=hid hg
 have HCs:=hid (TN (size:Int))
 have HFB:=hid (fun (p:FrH × FrameV) W (h:RightF p.2/\fT p.2<=8*(size:Int)) (r:Row W W.heap.size p.1.a (aW p.2.tones))=>(show Calls Tryz.prog 205 #[.agg (frC p).toArray,.int .i64 size] W (IF W p.2 size) from XR p.2 p.1.a p.1.c size W h.1 r h.2 (by omega)))
 unfold CoderAt at Hg
 generalize kF (size:Int)=cv at *
 clear hA hR hg hRf hcl
 go_enter Tryz.func175,Tryz.ntmps175
 go_wp2_with fail
 go_loopw [6,15] (fun o i wr=>∃ (m k:Nat) (A':Option Addr) (cc:Nat),m<=c/\k=m*size/\i=.int .i64 m/\o=.slice A' k cc/\cc<=9223372036854775807/\wr.ownsRow w.heap.size 5 1 (.slice A' k cc) k (u8s (jU size ((L.take m).map Prod.snd)))/\Below w.heap.size w wr) (fun _ i _=>c - (intOf i).toNat)
 case atStart=>exact ⟨0,0,none,0,by omega,by omega,rfl,rfl,by omega,World.ownsRow_nil _ _ _ _,Below.refl _ _⟩
 case round =>
  obtain ⟨m,k,A',cc,hm,hk,rfl,rfl,hcc63,hown,hbel⟩:=hrel
  have Hown:=hid hown
  have Hbel:=hid hbel
  have Hge:=hid (bJ hown)
  have Hc63:=hid hcc63
  have Hk:=hid hk
  clear hown hbel hcc63 hk
  by_cases hlk:m < c
  ·have t1:(m:Int) < (c:Int):=by omega
   have t2:(0:Int)<=(m:Int):=by omega
   obtain ⟨p,hp⟩:=aE (k:=m) Hcl.out hlk
   have hmem:=List.mem_of_getElem? hp
   have hpR:=HR.out p hmem
   have hpT:=(HA.out.tones p hmem).later Hbel.out
   have HTk:=hid (show jU size ((L.take (m+1)).map Prod.snd)=jU size ((L.take m).map Prod.snd) ++ aP p.2 size by
    obtain ⟨hm',rfl⟩:=List.getElem?_eq_some_iff.1 hp
    rw [List.take_succ_eq_append_getElem hm',List.map_append]
    exact NM _ _ _)
   have HBs:=hid (eD hpR.1 hpR.2)
   obtain ⟨b,off,rfl,hb,hcell⟩:=OQ HA.out hp
   have FX:=hid (fun j v (hv:(frC p)[j]? = some v)=>(show wr.cell? ⟨b,off+m*29+j,none⟩=some v from (Hbel.out.cell (p:=⟨b,off+m*29+j,none⟩) hb).trans (hcell j v hv)))
   have hfl:(frC p).length=29:=kI hpR.1.len
   have Hf1:=hid (show (frC p).toArray.all (·.oneCell')=true by
    rw [Array.all_eq_true_iff_forall_mem]
    intro v hv
    exact mL p v (by simpa using hv))
   have HQ:=hid (fun W (hW:Below wr.heap.size wr W)=>HFB.out p W hpR (hpT.later hW).2.2)
   have Hl29:=hid hfl
   have Ho1:=hid (mL p)
   have hk1:k+size=(m+1)*size:=by rw [Hk.out,Nat.succ_mul]
   have hkb:k+size<=10000000:=by
    have:(m+1)*size<=100000*96:=Nat.mul_le_mul (by omega) hs
    omega
   generalize frC p=fl at *
   have HFl:=hid (show (Tryz.prog.info? 50).map (·.size)=some fl.length by rw [hfl]; exact bX)
   have HFa:=hid (show (Tryz.prog.info? 50).map (·.size)=some fl.toArray.size by rw [List.size_toArray,hfl]; exact bX)
   have Hfz:=hid (show fl.toArray.size=29 by rw [List.size_toArray,hfl])
   have HN:=hid (heap_alloc_new wr (.cells fl.toArray 50))
   have EV:=hid (aL wr (.cells fl.toArray 50))
   have Cg:=hid (aF Hg.out (aC Hbel.out EV.out))
   have Hk1:=hid hk1
   clear hp hmem hpR hpT hcell hfl hk1
   go_wp2_with (first | (refine aN rfl 50 (.tmp 17) rfl b (off+m*29) rfl fl _ FX.out Tryz.underlying50 rfl HFl.out ?_) | (refine aA rfl 50 (.tmp 8) (.tmp 18) rfl wr.heap.size rfl _ _ fl.toArray rfl (heap_alloc_new wr _) HFa.out (by rw [Hfz.out]; rfl) Hf1.out ?_; rw [World.setRow_alloc_new]))
   have x5:=fC HN.out
   have z5:=fC Cg.out
   have u5:=fun (x:GW (wr.alloc (.cells fl.toArray 50)))=>(show x.1.cell? ⟨gc,32,none⟩=some (.int .i64 size) from (cell_of_row _ _ _ _ _ _ (z5 _ ⟨x,rfl⟩)).trans HCs.out)
   refine FV 5 (by kernel_rfl) rfl (by kernel_rfl) rfl rfl rfl (fun c a' w' d v h=>by cases d <;> exact h) ?_
   simp only [List.take_succ_cons,List.take_zero]
   simp only [Act.put]
   repeat (first | (go_big_quiet_want; refine bO 50 (.tmp 8) rfl wr.heap.size rfl _ fl.toArray _ _ x5 Tryz.underlying50 rfl HFa.out ?_; go_simp; go_big_quiet_on) | go_big_quiet_step (fail))
   refine wpQuiet_nil ?_
   intro w5 hw'
   have F5:=hid (aC EV.out (aK hw'))
   clear hw' x5 z5 u5
   go_wp2_with (go_at_call 205; fail)
   refine (HQ.out _ F5.out).mono ?_
   rintro e w6 ⟨gB,rfl,hge,hblk,hb6⟩
   have E6:=hid (aC F5.out hb6)
   have O6:=hid (cS Hown.out E6.out)
   have B6:=hid hblk
   have hz6:=E6.out.size
   have hzw:=Hbel.out.size
   clear hblk hb6 hge
   go_wp2_with (at_builtin; refine c9 _ rfl (.tmp 31) (.tmp 32) 30 rfl w.heap.size 5 i0 (.int .u8 0) 1 1 Tryz.underlying30 hi hz0 hz1 hz2 rfl (by omega) _ k _ rfl O6.out (gB+1) (some ⟨gB,0,none⟩) size size (u8s (aP p.2 size)) rfl (by rw [jA,HBs.out]; omega) (fun i v hv=>⟨gB,0,rfl,by omega,by rw [Nat.zero_add]; exact (cell_of_row _ _ _ _ _ _ B6.out).trans (by simpa using hv)⟩) (qS _) (by omega) (by omega) (by omega) ?_; intro A2 c2 w7 hown7 hgrow7 hat7 hcc7)
   go_roundw
   case rel =>
    have hb7:Below w.heap.size w w7:=(aC Hbel.out E6.out).grown hgrow7 (by omega) (fun g h=>Hge.out g h)
    exact ⟨m+1,k+size,A2,c2,by omega,Hk1.out,by go_num,rfl,iY hown7,by rw [HTk.out,aDj]; exact hown7,hb7⟩
   case measure=>simp [intOf]; omega
  ·have hmc:m=c:=by omega
   have t1:¬ ((m:Int) < (c:Int)):=by omega
   subst hmc
   have HE:=hid (show L.take m=L from List.take_of_length_le (by rw [Hcl.out]; exact Nat.le_refl _))
   have hkl:(jU size (L.map Prod.snd)).length=k:=by rw [HBa.out,Hk.out]
   have Hkl:=hid hkl
   clear hkl
   go_wp2
   refine bodyPost_ret (results_tmp2 Tryz.results175 _ _ _) rfl ?_
   have O:=Hown.out
   rw [HE.out] at O
   exact ⟨A',cc,by rw [Hkl.out]; rfl,by rw [Hkl.out]; exact sW O,Hc63.out,Row.of_own O,Hbel.out,Z5 O⟩
end Go.Proofs.YtnbbfblaipjcmaaGreatDoor

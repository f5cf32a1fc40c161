/- WrA. Conditions: as each theorem states. -/
import Derived.Laws.OwnMore
import Derived.Lib.Zigzag
import Derived.Laws.BitsAllLaws
import Derived.Test.YtnbbfblaipjcmaaGreatDoorPv04
import Derived.Test.YtnbbfblaipjcmaaGreatDoorPv01
import Derived.Test.YtnbbfblaipjcmaaGreatDoorPv05
namespace Go.Proofs.YtnbbfblaipjcmaaGreatDoor
open Go.Lib (hid)
open Go.RowKit
def u8s (l:List Nat):List Value:=l.map fun (x:Nat)=>Value.int .u8 (x:Int)
def WrAt (W:World) (g:Nat) (L:List Nat):Prop :=
 Bin L/\∃ v,W.heap[g]? = some (.cells #[v,.int .i64 (L.length:Int),.int .i64 0] 345 (0,0))/\W.ownsRow (g+1) 5 1 v ((L.length+7) / 8) (u8s (iM L))
theorem rS:(Tryz.prog.info? 5).map (fun i=>(i.zero,i.size,i.bytes))=some (some (.int .u8 0),1,1):=by kernel_rfl
theorem d9 {l:List Nat} {i x:Nat} (h:l[i]? = some x):(u8s l)[i]? = some (.int .u8 (x:Int)):=by unfold u8s; rw [List.getElem?_map,h]; rfl
theorem jA (l:List Nat):(u8s l).length=l.length:=by simp [u8s]
theorem qS (l:List Nat):∀ u ∈ u8s l,u.oneCell'=true:=by
 intro u hu
 unfold u8s at hu
 obtain ⟨x,_,rfl⟩:=List.mem_map.1 hu
 rfl
theorem aCy (v i:Nat):(v:Int) / 2 ^ i % 2=(GF v i:Int):=by
 unfold GF
 rw [show (2:Int) ^ i=((2 ^ i:Nat):Int) by rw [Int.natCast_pow]; rfl]
 omega
theorem aB7 {M:List Nat} (hM:Bin M) {b:Nat} (hb:b<=1):bits .or .u8 (fF M (M.length / 8):Int) ((b*2 ^ (7 - M.length % 8):Nat):Int)=((fF M (M.length / 8)+b*2 ^ (7 - M.length % 8):Nat):Int):=by
 have h1:=IU hM (M.length / 8)
 have h2:2 ^ (7 - M.length % 8)<=2 ^ 7:=Nat.pow_le_pow_right (by decide) (by omega)
 have h3:b*2 ^ (7 - M.length % 8) < 256:=by
  rcases Nat.lt_or_ge b 1 with h | h
  ·have:b=0:=by omega
   subst this; omega
  ·have:b=1:=by omega
   subst this; omega
 rw [u8_or_nat _ _ h1 h3]
 have h4:=TH M
 rw [show 8 - M.length % 8=(7 - M.length % 8)+1 by omega] at h4
 rw [aB0 h4 hb]
theorem JP {w w':World} {base:Nat} {e:TypeId} {size n:Nat} {v:Value} {xs:List Value} (h:w.ownsRow base e size v n xs) (hb:Below w.heap.size w w'):w'.ownsRow base e size v n xs:=by
 obtain ⟨h1,h2⟩:=h
 refine ⟨h1,?_⟩
 rcases h2 with h2 | ⟨g,cap,cur,hv,hg,hh,r⟩
 ·exact .inl h2
 ·exact .inr ⟨g,cap,cur,hv,hg,aF hh hb,r⟩
def Keeps (g:Nat) (w w':World):Prop:=∀ j cs T fr,w.heap[j]? = some (.cells cs T fr)->T ≠ 5->j ≠ g->w'.heap[j]? = some (.cells cs T fr)
theorem Keeps.refl (g:Nat) (w:World):Keeps g w w:=fun _ _ _ _ h _ _=>h
theorem Keeps.trans {g:Nat} {a b c:World} (h:Keeps g a b) (k:Keeps g b c):Keeps g a c:=fun j cs T fr h1 h2 h3=>k j cs T fr (h j cs T fr h1 h2 h3) h2 h3
theorem Keeps.below {g:Nat} {a b:World} (h:Below a.heap.size a b):Keeps g a b:=fun _ _ _ _ h1 _ _=>aF h1 h
theorem VC {w:World} {base:Nat} {e:TypeId} {size n:Nat} {v:Value} {xs:List Value} (h:w.ownsRow base e size v n xs) {j:Nat} {cs:Array Value} {T:TypeId} {fr:Nat × Nat} (hj:w.heap[j]? = some (.cells cs T fr)) (hT:T ≠ e):some j ≠ v.ownBlock:=by
 intro hk
 rcases h.2 with ⟨rfl,_⟩ | ⟨g,cap,cur,rfl,_,hg,_⟩
 ·simp [Value.ownBlock] at hk
 ·have:j=g:=by simpa [Value.ownBlock] using hk
  subst this
  rw [hj] at hg
  injection hg with hg
  injection hg with _ hg _
  exact hT hg
theorem Keeps.grown {g:Nat} {a b:World} {base size n:Nat} {v:Value} {xs:List Value} (h:a.grownBy b v.ownBlock) (ho:a.ownsRow base 5 size v n xs):Keeps g a b:=fun j _ _ _ h1 h2 _=>(h.block j (hlt h1) (VC ho h1 h2)).trans h1
theorem Keeps.set_g {g o:Nat} {a:World} {u:Value}:Keeps g a (a.setCell ⟨g,o,none⟩ u):=fun j _ _ _ h1 _ h3=>(Below.heap_setCell _ _ _ _ (by simpa using h3)).trans h1
theorem Keeps.set_own {g gg o cc:Nat} {a:World} {u:Value} {base size n m:Nat} {xs:List Value} (ho:a.ownsRow base 5 size (.slice (some ⟨gg,0,none⟩) m cc) n xs):Keeps g a (a.setCell ⟨gg,o,none⟩ u):=fun j cs T fr h1 h2 _=>(Below.heap_setCell _ _ _ _ (by
 have:=VC ho h1 h2
 intro h
 exact this (by simp [Value.ownBlock,h]))).trans h1
set_option maxRecDepth 100000 in
set_option maxHeartbeats 4000000 in
theorem pS (g v k:Nat) (L:List Nat) (w:World) (hk:k<=57) (hv:v < 2 ^ k) (hL:L.length+k<=100000) (hw:WrAt w g L) :
  Calls Tryz.prog 242 #[.pointer (some ⟨g,0,none⟩),.int .u64 v,.int .i64 k] w fun e w'=>e=.returned (.tuple #[])/\WrAt w' g (L ++ cI v k)/\Keeps g w w'/\Below g w w':=by
 have t1:decide ((k:Int) < 0)=false:=decide_eq_false (by omega)
 have t2:decide ((57:Int) < (k:Int))=false:=decide_eq_false (by omega)
 have t3:(v:Int) / 2 ^ k=0:=by
  rw [show (2:Int) ^ k=((2 ^ k:Nat):Int) by rw [Int.natCast_pow]; rfl,<-Int.natCast_ediv,Nat.div_eq_of_lt hv]; rfl
 have Hw:=hid hw
 obtain ⟨_,s,hs,_⟩:=hw
 have c2:w.cell? ⟨g,2,none⟩=some (.int .i64 0):=cell_of_row w g 2 _ _ _ hs
 have t0:(k:Int)<=64:=by omega
 have Hv:=hid hv
 clear hs hv
 go_enter Tryz.func242,Tryz.ntmps242
 go_wp2
 go_loopw [6] (fun i wr=>∃ m:Nat,m<=k/\i=.int .i64 ((k:Int) - 1 - (m:Int))/\WrAt wr g (L ++ (cI v k).take m)/\Keeps g w wr/\Below g w wr) (fun i _=>(intOf i+1).toNat)
 case atStart=>exact ⟨0,by omega,by go_num,by simpa using Hw.out,Keeps.refl _ _,Below.refl _ _⟩
 case round =>
  obtain ⟨m,hm,rfl,hW,hkp,hbel⟩:=hrel
  have Hbel:=hid hbel
  have Hkp:=hid hkp
  clear c2 hbel hkp
  by_cases hlk:m < k
  ·have t4:(0:Int)<=(k:Int) - 1 - (m:Int):=by omega
   obtain ⟨M,hM⟩:∃ M,L ++ (cI v k).take m=M:=⟨_,rfl⟩
   have hn:M.length=L.length+m:=by rw [<-hM]; simp [cC]; omega
   have HS:=hid (show L ++ (cI v k).take (m+1)=M ++ [GF v (k - 1 - m)] by rw [yY v hlk,<-hM,List.append_assoc])
   rw [hM] at hW
   obtain ⟨hBin,s,hs,hown⟩:=hW
   obtain ⟨A0,cz,rfl,_,_⟩:=iL hown
   have HBin:=hid hBin
   have Hs:=hid hs
   have Hown:=hid hown
   obtain ⟨n,hnn⟩:∃ n,M.length=n:=⟨_,rfl⟩
   obtain ⟨r,hr⟩:∃ r,(n+7) / 8=r:=⟨_,rfl⟩
   rw [hnn] at hn hown hs Hs Hown
   rw [hr] at hown hs Hs Hown
   have HN:=hid hnn
   have c0:wr.cell? ⟨g,0,none⟩=some (.slice A0 r cz):=cell_of_row wr g 0 _ _ _ hs
   have c1:wr.cell? ⟨g,1,none⟩=some (.int .i64 n):=cell_of_row wr g 1 _ _ _ hs
   clear hM hBin hs hown hnn
   obtain ⟨j,hj⟩:=Int.eq_ofNat_of_zero_le t4
   have hjk:k - 1 - m=j:=by omega
   rw [hjk] at HS
   rw [hj]
   have t5:(0:Int)<=(j:Int):=by omega
   have t6:(j:Int)<=64:=by omega
   have hb:=WT v j
   obtain ⟨b,hbb⟩:∃ b,GF v j=b:=⟨_,rfl⟩
   rw [hbb] at HS hb
   have hand:bits .and .u64 ((v:Int) / 2 ^ j) 1=(b:Int):=by
    have h0:(v:Int) / 2 ^ j=((v / 2 ^ j:Nat):Int):=by rw [show (2:Int) ^ j=((2 ^ j:Nat):Int) by rw [Int.natCast_pow]; rfl]; exact (Int.natCast_ediv v (2 ^ j)).symm
    have h1:v / 2 ^ j<=v:=Nat.div_le_self _ _
    have h2:v < 2 ^ 57:=Nat.lt_of_lt_of_le Hv.out (Nat.pow_le_pow_right (by decide) hk)
    rw [h0,Go.Lib.u64_and1 _ (Int.natCast_nonneg _) (Int.lt_of_le_of_lt (Int.ofNat_le.2 h1) (by omega)),<-h0,aCy,hbb]
   have hcv:IntKind.u8.wrap (b:Int)=(b:Int):=by rw [IntKind.wrap_u8']; omega
   obtain ⟨q,hq⟩:∃ q,n / 8=q:=⟨_,rfl⟩
   obtain ⟨p,hp⟩:∃ p,7 - n % 8=p:=⟨_,rfl⟩
   have hqi:(n:Int) / 8=(q:Int):=by omega
   have hpi:(7:Int) - (n:Int) % 8=(p:Int):=by omega
   have t7:(0:Int)<=(p:Int):=by omega
   have t8:(p:Int)<=8:=by omega
   have hpow:2 ^ p<=2 ^ 7:=Nat.pow_le_pow_right (by decide) (by omega)
   have hy:b*2 ^ p < 256:=by
    rcases Nat.lt_or_ge b 1 with h | h
    ·have:b=0:=by omega
     subst this; omega
    ·have:b=1:=by omega
     subst this; omega
   have hsh:IntKind.u8.wrap ((b:Int)*2 ^ p)=((b*2 ^ p:Nat):Int):=by
    rw [IntKind.wrap_u8',show (2:Int) ^ p=((2 ^ p:Nat):Int) by rw [Int.natCast_pow]; rfl,<-Int.natCast_mul]
    omega
   have hor:bits .or .u8 (fF M q:Int) ((b*2 ^ p:Nat):Int)=((fF M q+b*2 ^ p:Nat):Int):=by
    have:=aB7 HBin.out hb
    rwa [HN.out,hq,hp] at this
   have HR:=hid (show iM (M ++ [b])=(mB M).set q (fF M q+b*2 ^ p) by rw [VE,HN.out,hq,hp])
   have HG:=hid (show (mB M)[q]? = some (fF M q) by have:=aAk M; rwa [HN.out,hq] at this)
   have HRl:=hid (show (mB M).length=q+1 by rw [yL,HN.out,hq])
   have HB2:=hid (show Bin (M ++ [b]) from HBin.out.append (fun x hx=>by rw [List.mem_singleton] at hx; omega))
   obtain ⟨y,hyy⟩:∃ y,b*2 ^ p=y:=⟨_,rfl⟩
   rw [hyy] at hsh hor HR
   obtain ⟨X,hX⟩:∃ X,fF M q=X:=⟨_,rfl⟩
   rw [hX] at hor HR HG
   obtain ⟨Z,hZ⟩:∃ Z,X+y=Z:=⟨_,rfl⟩
   rw [hZ] at hor HR
   have Hjk:=hid hj
   have hnb:n<=100000:=by omega
   have hqn:r<=100000:=by omega
   have Hn:=hid hn
   have Hq:=hid hq
   clear hj hjk hbb hn t4 hX hyy hy hpow hZ
   have key:∀ (wx:World) (gg cc:Nat),wx.heap[g]? = some (.cells #[.slice (some ⟨gg,0,none⟩) (q+1) cc,.int .i64 n,.int .i64 0] 345 (0,0))->wx.ownsRow (g+1) 5 1 (.slice (some ⟨gg,0,none⟩) (q+1) cc) (q+1) (u8s (mB M)) ->
     WrAt ((wx.setCell ⟨gg,q,none⟩ (.int .u8 (Z:Int))).setCell ⟨g,1,none⟩ (.int .i64 ((n:Int)+1))) g (L ++ (cI v k).take (m+1)):=by
    intro wx gg cc h1 h2
    have h3:=h2.stored q (.int .u8 (Z:Int))
    have hgg:=(h2.lt gg rfl).1
    refine ⟨by rw [HS.out]; exact HB2.out,.slice (some ⟨gg,0,none⟩) (q+1) cc,?_,?_⟩
    ·have h4:(wx.setCell ⟨gg,q,none⟩ (.int .u8 (Z:Int))).heap[g]? = some (.cells #[.slice (some ⟨gg,0,none⟩) (q+1) cc,.int .i64 n,.int .i64 0] 345 (0,0)):=(Below.heap_setCell _ _ _ _ (by simp; omega)).trans h1
     have h5:=heap_setCell_same (wx.setCell ⟨gg,q,none⟩ (.int .u8 (Z:Int))) g 1 _ _ (.int .i64 ((n:Int)+1)) h4
     rw [h5,HS.out,List.length_append,HN.out]
     simp
    ·have h6:=ownsRow_setCell_below h3.1 (a:=⟨g,1,none⟩) (by simp) (.int .i64 ((n:Int)+1))
     have e1:((L ++ (cI v k).take (m+1)).length+7) / 8=q+1:=by rw [HS.out,List.length_append,HN.out,<-Hq.out]; simp; omega
     have e2:u8s (iM (L ++ (cI v k).take (m+1)))=(u8s (mB M)).set q (.int .u8 (Z:Int)):=by rw [HS.out,HR.out]; unfold u8s; rw [List.map_set]
     rw [e1,e2]
     exact h6
   have Hkey:=hid key
   clear key
   by_cases h8:n % 8=0
   ·have e8:(n:Int) % 8=0:=by omega
    have hrq:r=q:=by omega
    subst hrq
    have HRm:=hid (show u8s (mB M)=u8s (iM M) ++ [.int .u8 0] by unfold mB; rw [HN.out,if_pos h8]; unfold u8s; rw [List.map_append]; rfl)
    obtain ⟨i0,hi,hz0,hz1,hz2⟩:∃ i,Tryz.prog.info? 5=some i/\i.zero=some (.int .u8 0)/\i.size=1/\i.bytes=1:=by
     have:=rS
     cases h:Tryz.prog.info? 5 with
     | none=>rw [h] at this; cases this
     | some i=>rw [h] at this; simp at this; exact ⟨i,rfl,this.1,this.2.1,this.2.2⟩
    have gz:=hlt Hs.out
    go_wp2_with (at_builtin; refine c9 _ rfl (.tmp 43) (.tmp 44) 30 rfl (g+1) 5 i0 (.int .u8 0) 1 1 Tryz.underlying30 hi hz0 hz1 hz2 rfl (by omega) _ r (u8s (iM M)) rfl (Hown.out.alloc _) (wr.heap.size+1) (some ⟨wr.heap.size,0,none⟩) 1 1 [.int .u8 0] rfl rfl (Row.new wr _ _) (fun u hu=>by simp at hu; subst hu; rfl) (by omega) (by omega) (by simp; omega) ?_; intro A2 cc w2 hown2 hgrow hat hcc; have hs2:w2.heap[g]? = some (.cells #[.slice A0 r cz,.int .i64 n,.int .i64 0] 345 (0,0)):=(hgrow.block g (by simp; omega) (by intro h; have:=(Hown.out.lt g h.symm).1; omega)).trans ((heap_alloc_old _ _ gz).trans Hs.out); have d0:=cell_of_row w2 g 0 _ _ _ hs2; have z0:=frozen_of_row w2 g 0 _ _ hs2)
    have hs3:(w2.setCell ⟨g,0,none⟩ (.slice A2 (r+1) cc)).heap[g]? = some (.cells #[.slice A2 (r+1) cc,.int .i64 n,.int .i64 0] 345 (0,0)):=heap_setCell_same w2 g 0 _ _ _ hs2
    have ho3:=ownsRow_setCell_below hown2 (a:=⟨g,0,none⟩) (by simp) (.slice A2 (r+1) cc)
    rw [<-HRm.out] at ho3
    have hb3:Below g w (w2.setCell ⟨g,0,none⟩ (.slice A2 (r+1) cc)):=(OT (Hbel.out.alloc (Nat.le_of_lt gz) _) hgrow (by simp; omega) (fun k hk=>by have:=(Hown.out.lt k hk).1; omega)).setCell (by simp) _
    have hk3:Keeps g w (w2.setCell ⟨g,0,none⟩ (.slice A2 (r+1) cc)):=((Hkp.out.trans (Keeps.below (aL wr _))).trans (Keeps.grown hgrow (Hown.out.alloc _))).trans Keeps.set_g
    clear hs2 d0 z0 hown2 hgrow hat c0 c1 e8
    generalize w2.setCell ⟨g,0,none⟩ (.slice A2 (r+1) cc)=wx at *
    generalize hqr:r=q at *
    obtain ⟨gg,cx,hv,hgg,hggs⟩:=ho3.form (by omega)
    injection hv with hv1 _ hv2
    subst hv1 hv2
    have hne:gg ≠ g:=by omega
    have hcell:wx.cell? ⟨gg,q,none⟩=some (.int .u8 (X:Int)):=(ho3.cellAt q (by omega)).trans (d9 HG.out)
    have hx5:=dW hs3
    have hx6:=fun (x:GW wx)=>(BC x (p:=⟨gg,q,none⟩) hggs).trans hcell
    have Hs3:=hid hs3
    have Ho3:=hid ho3
    have Hb3:=hid hb3
    have Hk3:=hid hk3
    have t9:(q:Int) < ((q+1:Nat):Int):=by omega
    have t10:(0:Int)<=(q:Int):=by omega
    clear hs3 ho3 hb3 hcell hk3
    refine aI 25 (by kernel_rfl) (by kernel_rfl) ?_
    simp only [List.take_succ_cons,List.take_zero,List.drop_succ_cons,List.drop_zero]
    repeat (go_big_quiet_step (fail))
    refine wpQuiet_nil ?_
    intro w5 hw'
    have hb5:=aK hw'
    have hs5:=aF Hs3.out hb5
    have ho5:w5.ownsRow (g+1) 5 1 (.slice (some ⟨gg,0,none⟩) (q+1) cc) (q+1) (u8s (mB M)):=JP Ho3.out hb5
    have Hk:=hid (Hkey.out w5 gg cc hs5 ho5)
    have HK5:=hid (((Hk3.out.trans (Keeps.below hb5)).trans (Keeps.set_own (o:=q) (u:=.int .u8 (Z:Int)) ho5)).trans (Keeps.set_g (o:=1) (u:=.int .i64 ((n:Int)+1))))
    have HB5:=hid (Hb3.out.trans (hb5.mono (hlt Hs3.out |> Nat.le_of_lt)))
    have ce:w5.cell? ⟨gg,q,none⟩=some (.int .u8 (X:Int)):=(ho5.cellAt q (by omega)).trans (d9 HG.out)
    have fz:=ho5.frozenAt q
    have hs6:(w5.setCell ⟨gg,q,none⟩ (.int .u8 (Z:Int))).heap[g]? = some (.cells #[.slice (some ⟨gg,0,none⟩) (q+1) cc,.int .i64 n,.int .i64 0] 345 (0,0)):=(Below.heap_setCell _ _ _ _ (by simp; omega)).trans hs5
    have ce1:(w5.setCell ⟨gg,q,none⟩ (.int .u8 (Z:Int))).cell? ⟨g,1,none⟩=some (.int .i64 n):=cell_of_row _ g 1 _ _ _ hs6
    have fz1:(w5.setCell ⟨gg,q,none⟩ (.int .u8 (Z:Int))).frozen? ⟨g,1,none⟩=false:=frozen_of_row _ g 1 _ _ hs6
    clear hw' hb5 hx5 hx6 hs5 ho5 hs6
    go_wp2
    go_roundw
    case rel=>exact ⟨m+1,by omega,by have:=Hjk.out; exact jB (by omega),Hk.out,HK5.out,(HB5.out.setCell (by simp; omega) _).setCell (by simp) _⟩
    case measure=>simp [intOf]
   ·have e8:¬ (n:Int) % 8=0:=by omega
    have hrq:r=q+1:=by omega
    subst hrq
    have HRm:=hid (show u8s (mB M)=u8s (iM M) by unfold mB; rw [HN.out,if_neg h8,List.append_nil])
    have hs3:=Hs.out
    have ho3:=Hown.out
    rw [<-HRm.out] at ho3
    have hb3:=Hbel.out
    have hk3:=Hkp.out
    go_wp2
    clear c0 c1
    generalize wr=wx at *
    have hq0:True:=trivial
    obtain ⟨gg,cx,hv,hgg,hggs⟩:=ho3.form (by omega)
    injection hv with hv1 _ hv2
    subst hv1 hv2
    have hne:gg ≠ g:=by omega
    have hcell:wx.cell? ⟨gg,q,none⟩=some (.int .u8 (X:Int)):=(ho3.cellAt q (by omega)).trans (d9 HG.out)
    have hx5:=dW hs3
    have hx6:=fun (x:GW wx)=>(BC x (p:=⟨gg,q,none⟩) hggs).trans hcell
    have Hs3:=hid hs3
    have Ho3:=hid ho3
    have Hb3:=hid hb3
    have Hk3:=hid hk3
    have t9:(q:Int) < ((q+1:Nat):Int):=by omega
    have t10:(0:Int)<=(q:Int):=by omega
    clear hs3 ho3 hb3 hcell hk3
    refine aI 25 (by kernel_rfl) (by kernel_rfl) ?_
    simp only [List.take_succ_cons,List.take_zero,List.drop_succ_cons,List.drop_zero]
    repeat (go_big_quiet_step (fail))
    refine wpQuiet_nil ?_
    intro w5 hw'
    have hb5:=aK hw'
    have hs5:=aF Hs3.out hb5
    have ho5:w5.ownsRow (g+1) 5 1 (.slice (some ⟨gg,0,none⟩) (q+1) cz) (q+1) (u8s (mB M)):=JP Ho3.out hb5
    have Hk:=hid (Hkey.out w5 gg cz hs5 ho5)
    have HK5:=hid (((Hk3.out.trans (Keeps.below hb5)).trans (Keeps.set_own (o:=q) (u:=.int .u8 (Z:Int)) ho5)).trans (Keeps.set_g (o:=1) (u:=.int .i64 ((n:Int)+1))))
    have HB5:=hid (Hb3.out.trans (hb5.mono (hlt Hs3.out |> Nat.le_of_lt)))
    have ce:w5.cell? ⟨gg,q,none⟩=some (.int .u8 (X:Int)):=(ho5.cellAt q (by omega)).trans (d9 HG.out)
    have fz:=ho5.frozenAt q
    have hs6:(w5.setCell ⟨gg,q,none⟩ (.int .u8 (Z:Int))).heap[g]? = some (.cells #[.slice (some ⟨gg,0,none⟩) (q+1) cz,.int .i64 n,.int .i64 0] 345 (0,0)):=(Below.heap_setCell _ _ _ _ (by simp; omega)).trans hs5
    have ce1:(w5.setCell ⟨gg,q,none⟩ (.int .u8 (Z:Int))).cell? ⟨g,1,none⟩=some (.int .i64 n):=cell_of_row _ g 1 _ _ _ hs6
    have fz1:(w5.setCell ⟨gg,q,none⟩ (.int .u8 (Z:Int))).frozen? ⟨g,1,none⟩=false:=frozen_of_row _ g 1 _ _ hs6
    clear hw' hb5 hx5 hx6 hs5 ho5 hs6
    go_wp2
    go_roundw
    case rel=>exact ⟨m+1,by omega,by have:=Hjk.out; exact jB (by omega),Hk.out,HK5.out,(HB5.out.setCell (by simp; omega) _).setCell (by simp) _⟩
    case measure=>simp [intOf]
  ·have hmk:m=k:=by omega
   subst hmk
   have t4:¬ ((0:Int)<=(m:Int) - 1 - (m:Int)):=by omega
   have Hf:=hid hW
   clear hW
   go_wp2
   refine bodyPost_end (v:=.tuple #[]) (results_none Tryz.results242 _ _ _) rfl ?_
   refine ⟨rfl,?_,Hkp.out,Hbel.out⟩
   have:=Hf.out
   rwa [List.take_of_length_le (by rw [cC]; exact Nat.le_refl _)] at this
end Go.Proofs.YtnbbfblaipjcmaaGreatDoor

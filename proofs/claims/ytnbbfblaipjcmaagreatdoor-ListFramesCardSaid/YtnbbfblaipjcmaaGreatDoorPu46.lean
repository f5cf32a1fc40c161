/- DskA, DskB, CacA, CacB, CacC, CacD, CacE. Conditions: as each theorem states. -/
import Derived.Maps.OwnSet
import Derived.Test.YtnbbfblaipjcmaaGreatDoorPu04
import Derived.Test.YtnbbfblaipjcmaaGreatDoorPu43
import Derived.Test.YtnbbfblaipjcmaaGreatDoorPu18
set_option maxRecDepth 100000
namespace Go.Proofs.YtnbbfblaipjcmaaGreatDoor
section
open Go.RowKit Go.Lib
def DiskAt (w:World) (g:Nat) (bs:List Nat) (rd:Int) (Ai:Option Addr) (gm:Nat):Prop :=
 (∃ ci,w.heap[g]? = some (.cells #[.slice Ai bs.length ci,.map (some gm),.int .i64 rd,.int .i64 0] 232 (0,0))/\bs.length<=ci/\ci<=9223372036854775807)/\Row w w.heap.size Ai (u8s bs)/\w.heap[gm]? = some (.map #[] 0)
theorem DiskAt.later {w w':World} {g:Nat} {bs:List Nat} {rd:Int} {Ai:Option Addr} {gm:Nat} (h:DiskAt w g bs rd Ai gm) (hb:Below w.heap.size w w'):DiskAt w' g bs rd Ai gm:=by
 obtain ⟨⟨ci,h1,h2,h3⟩,h4,h5⟩:=h
 exact ⟨⟨ci,hkeep h1 hb,h2,h3⟩,h4.later hb,(hb.block gm (hlt h5)).trans h5⟩
def pageZ (bs:List Nat) (p:Nat):List Nat:=subB bs (64*p) 64
end
section
open Go.RowKit Go.Lib
def DiskP (w:World) (bs:List Nat) (e:Ending) (w':World):Prop:=∃ gd Ai gm,e=.returned (.tuple #[.pointer (some ⟨gd,0,none⟩),.int .i64 0])/\DiskAt w' gd bs 0 Ai gm/\w.heap.size<=gd/\w.heap.size<=gm/\gm < gd/\(∀ ad,Ai=some ad->w.heap.size<=ad.block/\ad.block < gm)/\Below w.heap.size w w'
set_option maxHeartbeats 4000000 in
theorem diskNew_any (bs:List Nat) (A:Option Addr) (cap:Nat) (w:World) (hl:bs.length<=4194304) (hr:Row w w.heap.size A (u8s bs)) :
  Calls Tryz.prog 76 #[.slice A bs.length cap] w (DiskP w bs):=by
 obtain ⟨i0,hi,hz0,hi1,hi2⟩:=info_parts inf_u8
 have Hr:=Lib.hid hr
 have H1:=Lib.hid (u8s_one bs)
 have Hul:=Lib.hid (show (u8s bs).length=bs.length from by unfold u8s; exact List.length_map _)
 have hmm:=@run_makeMap Tryz.prog
 obtain ⟨n,hn⟩:∃ n,bs.length=n:=⟨_,rfl⟩
 have HD:=Lib.hid (show ∀ e w',(∃ gd Ai gm,e=.returned (.tuple #[.pointer (some ⟨gd,0,none⟩),.int .i64 0])/\DiskAt w' gd bs 0 Ai gm/\w.heap.size<=gd/\w.heap.size<=gm/\gm < gd/\(∀ ad,Ai=some ad->w.heap.size<=ad.block/\ad.block < gm)/\Below w.heap.size w w')->DiskP w bs e w' from fun _ _ h=>h)
 generalize DiskP w bs=DP at *
 rw [hn] at hl Hul ⊢
 have Hn:=Lib.hid hn
 have t1:¬ ((4194304:Int) < (n:Int)):=by omega
 clear hr hn
 go_enter Tryz.func76,Tryz.ntmps76
 go_wp2_with (at_builtin; refine wpList_app _ rfl (.const (.slice none 0 0)) (.tmp 7) 30 rfl w.heap.size 5 i0 (.int .u8 0) 1 1 Tryz.underlying30 hi hz0 hi1 hi2 rfl (by omega) (.slice none 0 0) 0 [] rfl (World.ownsRow_nil _ _ _ _) w.heap.size A n cap (u8s bs) rfl (by rw [Hul.out]; omega) Hr.out H1.out (by omega) (by omega) (Nat.le_refl _) ?_; intro A2 c2 w2 hown2 hgrow hat hcc)
 rw [Nat.zero_add] at hown2 hcc
 rw [List.nil_append] at hown2
 have hb2:Below w.heap.size w w2:=(Below.refl _ _).grown hgrow (Nat.le_refl _) (fun k hk=>by cases hk)
 have hz:(w2.alloc (.map #[] 0)).heap.size=w2.heap.size+1:=by simp
 have hm:(w2.alloc (.map #[] 0)).heap[w2.heap.size]? = some (.map #[] 0):=heap_alloc_new w2 _
 have hd:=heap_alloc_new (w2.alloc (.map #[] 0)) (.cells #[.slice A2 n c2,.map (some w2.heap.size),.int .i64 0,.int .i64 0] 232)
 rw [hz] at hd
 have hrow:=(((Row.of_own hown2).later (bnew w2 (.map #[] 0)))).later (bnew _ (.cells #[.slice A2 n c2,.map (some w2.heap.size),.int .i64 0,.int .i64 0] 232))
 refine HD.out _ _ ⟨w2.heap.size+1,A2,w2.heap.size,rfl,⟨⟨c2,by rw [Hn.out]; exact hd,by rw [Hn.out]; exact hcc,own_cap hown2⟩,hrow,(heap_alloc_old _ _ (hlt hm)).trans hm⟩,by have:=hb2.size; omega,hb2.size,Nat.lt_succ_self _,fun ad had=>?_,bnext (bnext hb2 (bnew _ _)) (bnew _ _)⟩
 rcases hown2.2 with ⟨hv0,_⟩ | ⟨g',cap',cur,hv0,hbg,hg,_⟩
 ·injection hv0 with e1
  rw [had] at e1
  cases e1
 ·injection hv0 with e1
  rw [had] at e1
  injection e1 with e1
  rw [e1]
  exact ⟨hbg,hlt hg⟩
end
section
open Go.RowKit Go.Lib
structure SlotV where
 page:Int
 used:Bool
 full:Bool
 a:Option Addr
 len:Nat
 cap:Nat
instance:Inhabited SlotV:=⟨⟨0,false,false,none,0,0⟩⟩
def SlotV.cells (s:SlotV):List Value:=[.int .i64 s.page,.bool s.used,.bool s.full,.slice s.a s.len s.cap]
def slotsC (L:List SlotV):List Value:=(L.map SlotV.cells).flatten
theorem slotsC_get (L:List SlotV) {k:Nat} {s:SlotV} (h:L[k]? = some s) (j:Nat) (hj:j < 4):(slotsC L)[k*4+j]? = s.cells[j]?:=by
 unfold slotsC
 rw [flat_get 4 (L.map SlotV.cells) (fun cs hcs=>by obtain ⟨z,_,rfl⟩:=List.mem_map.1 hcs; rfl) k j hj]
 simp [h]
theorem slotsC_len (L:List SlotV):(slotsC L).length=L.length*4:=by
 induction L with
 | nil=>rfl
 | cons p r ih =>
  show (p.cells ++ slotsC r).length=_
  rw [List.length_append,ih,List.length_cons,Nat.succ_mul]
  show 4+_=_
  omega
structure CacheV where
 hits:Int
 misses:Int
 tries:Int
 lost:Int
 hand:Nat
 retry:Nat
 SL:List SlotV
def CacheV.cells (v:CacheV) (gd gs:Nat):List Value:=[.int .i64 v.hits,.int .i64 v.misses,.int .i64 v.tries,.int .i64 v.lost,.pointer (some ⟨gd,0,none⟩),.slice (some ⟨gs,0,none⟩) v.SL.length v.SL.length,.int .i64 v.hand,.int .i64 v.retry]
structure CacheAt (w:World) (gc gd gs:Nat) (v:CacheV):Prop where
 head:Blk w gc 188 (v.cells gd gs)
 slots:Blk w gs 247 (slotsC v.SL)
 many:v.SL.length<=1024
 one:0 < v.SL.length
 hand:v.hand < v.SL.length
 tries:v.retry<=8
theorem CacheAt.below {w w':World} {gc gd gs:Nat} {v:CacheV} (h:CacheAt w gc gd gs v) (hb:Below w.heap.size w w'):CacheAt w' gc gd gs v:=⟨h.head.below hb h.head.lt,h.slots.below hb h.slots.lt,h.many,h.one,h.hand,h.tries⟩
end
section
open Go.RowKit Go.Lib
theorem DiskAt.blk {w:World} {g:Nat} {bs:List Nat} {rd:Int} {Ai:Option Addr} {gm:Nat} (h:DiskAt w g bs rd Ai gm):∃ ci,Blk w g 232 [.slice Ai bs.length ci,.map (some gm),.int .i64 rd,.int .i64 0]:=by
 obtain ⟨⟨ci,h1,_⟩,_⟩:=h
 exact ⟨ci,h1⟩
end
section
open Go.RowKit Go.Lib
end
section
open Go.RowKit Go.Lib
def GoodS4 (w:World) (bs:List Nat) (s:SlotV):Prop:=s.full=true->∃ (p gb:Nat),s.page=p/\p*64+64<=bs.length/\s.a=some ⟨gb,0,none⟩/\s.len=64/\s.cap=64/\Blk w gb 5 (u8s (pageZ bs p))
structure CacheOk (w:World) (bs:List Nat) (gc gd gs:Nat) (Ai:Option Addr) (gm:Nat) (K:Nat) (rd:Int) (v:CacheV):Prop where
 cache:CacheAt w gc gd gs v
 disk:DiskAt w gd bs rd Ai gm
 img:∀ ad,Ai=some ad->ad.block ≠ gc/\ad.block ≠ gs/\ad.block ≠ gd
 full:∀ s ∈ v.SL,GoodS4 w bs s
 cnt:(0<=v.hits/\v.hits<=K)/\(0<=v.misses/\v.misses<=K)/\(0<=v.tries/\v.tries<=K)/\(0<=rd/\rd<=K)
end
section
open Go.RowKit Go.Lib
theorem cacheNone_any (w:World) (gc gd gs:Nat) (v:CacheV) (h:CacheAt w gc gd gs v):Calls Tryz.prog 103 #[.pointer (some ⟨gc,0,none⟩)] w fun e w'=>e=.returned (.bool false)/\w=w':=by
 have c4:w.cell? ⟨gc,4,none⟩=some (.pointer (some ⟨gd,0,none⟩)):=(h.head.cell 4).trans rfl
 clear h
 go_enter Tryz.func103,Tryz.ntmps103
 go_wp2
 go_ret
 exact ⟨rfl,rfl⟩
theorem cacheDisk_any (w:World) (gc gd gs:Nat) (v:CacheV) (h:CacheAt w gc gd gs v):Calls Tryz.prog 89 #[.pointer (some ⟨gc,0,none⟩)] w fun e w'=>e=.returned (.pointer (some ⟨gd,0,none⟩))/\w=w':=by
 have HN:=Lib.hid (cacheNone_any w gc gd gs v h)
 have c4:w.cell? ⟨gc,4,none⟩=some (.pointer (some ⟨gd,0,none⟩)):=(h.head.cell 4).trans rfl
 clear h
 go_enter Tryz.func89,Tryz.ntmps89
 go_wp2_with (go_at_call 103; refine HN.out.mono ?_; rintro e w' ⟨rfl,rfl⟩)
 go_ret
 exact ⟨rfl,rfl⟩
end
end Go.Proofs.YtnbbfblaipjcmaaGreatDoor

import Derived.Test.YtbjddfiledoaoaaGreatYE
import Derived.Test.YtbjddfiledoaoaaGreatYO
import Derived.Test.YtbjddfiledoaoaaGreatConfF
import Derived.Test.YtbjddfiledoaoaaGreatXG
namespace Go.Proofs.YtbjddfiledoaoaaGreat
open Go.RowKit
def NQPost (w:World) (c:CF) (e:Ending) (w':World):Prop :=
 (vnum c=0∧∃ q:QS,e=.returned (.tuple #[.agg q.cells.toArray,.int .i64 0])∧RX w' (fun i=>i<w.heap.size) q∧q.pt=newX c∧q.c=c∧Same w w') ∨
 (vnum c≠0∧e=.returned (.tuple #[.agg zero20.toArray,.int .i64 1])∧Same w w')
theorem zero20_one:∀ v∈zero20,v.oneCell'=true:=by
 intro u hu
 simp only [zero20,List.mem_cons,List.not_mem_nil,or_false] at hu
 rcases hu with rfl | rfl | rfl | rfl | rfl | rfl | rfl | rfl | rfl | rfl | rfl | rfl | rfl | rfl | rfl | rfl | rfl | rfl | rfl | rfl <;> rfl
def whoN (j:Nat):List Int:=(List.range j).map (fun k:Nat=>(k:Int))
theorem whoN_succ (j:Nat):whoN (j+1)=whoN j++[(j:Int)]:=by simp [whoN,List.range_succ]
theorem whoN_len (j:Nat):(whoN j).length=j:=by simp [whoN]
def newQ (c:CF) (i j:Nat) (WA:Option Addr) (wc:Nat) (EA:Option Addr) (ec:Nat):QS:=⟨c,none,0,[],WA,wc,whoN i,EA,ec,List.replicate j 1,none,0,[],none,0,[]⟩
structure NwI (w wr:World) (g b0:Nat) (c:CF) (i j:Nat) (WA:Option Addr) (wc:Nat) (EA:Option Addr) (ec:Nat):Prop where
 blk:Blk wr g 35 (newQ c i j WA wc EA ec).cells.toArray
 cfg:Blk wr w.heap.size 27 c.cells.toArray
 res:Blk wr (w.heap.size+1) 35 zero20.toArray
 who:Own wr b0 3 1 (.slice WA i wc) i (icells (whoN i))
 ep:Own wr b0 2 1 (.slice EA j ec) j (icells (List.replicate j 1))
 ne:∀ b,(Value.slice WA i wc).ownBlock=some b→(Value.slice EA j ec).ownBlock≠some b
 same:Same w wr
 hb:b0≤wr.heap.size
 hg:g<b0∧w.heap.size+1<g
theorem NwI.keep {w wr W:World} {g b0:Nat} {c:CF} {i j:Nat} {WA EA:Option Addr} {wc ec:Nat} (h:NwI w wr g b0 c i j WA wc EA ec) (hk:Same wr W):NwI w W g b0 c i j WA wc EA ec :=
 ⟨h.blk.keep hk (fun f=>f),h.cfg.keep hk (fun f=>f),h.res.keep hk (fun f=>f),h.who.keepB hk (fun _ _ f=>f),h.ep.keepB hk (fun _ _ f=>f),h.ne,h.same.then hk,Nat.le_trans h.hb hk.size,h.hg⟩
theorem ob_map (A:Option Addr) (n c:Nat):(Value.slice A n c).ownBlock=A.map (·.block):=by cases A <;> rfl
theorem NwI.who_grow {w w6 w7:World} {g b0:Nat} {c:CF} {i j:Nat} {WA EA A7:Option Addr} {wc ec c7:Nat} (h:NwI w w6 g b0 c i j WA wc EA ec)
 (ho7:Own w7 b0 3 1 (.slice A7 (i+1) c7) (i+1) (icells (whoN (i+1)))) (hg7:w6.grownBy w7 (Value.slice WA i wc).ownBlock) (hw7:A7.map (·.block)=(Value.slice WA i wc).ownBlock∨A7.map (·.block)=some w6.heap.size) :
 NwI w (w7.setCell ⟨g,16,none⟩ (.slice A7 (i+1) c7)) g b0 c (i+1) j A7 c7 EA ec∧w7.cell? ⟨g,16,none⟩=some (.slice WA i wc)∧w7.frozen? ⟨g,16,none⟩=false:=by
 have hkq:Keep (fun b=>(Value.slice WA i wc).ownBlock=some b) w6 w7:=(Keep.refl _ _).grown hg7 (fun x e _=>e)
 have hkp:Keep (fun b=>b=g) w7 (w7.setCell ⟨g,16,none⟩ (.slice A7 (i+1) c7)):=(Keep.refl _ _).put 16 _
 have hb:∀ b,(Value.slice WA i wc).ownBlock=some b→b0≤b:=h.who.block
 have hg:=h.hg
 have hbk:=h.blk.keep hkq (fun e=>by have:=hb _ e;omega)
 refine ⟨⟨?_,?_,?_,?_,?_,?_,?_,Nat.le_trans h.hb (Nat.le_trans hkq.size hkp.size),h.hg⟩,(hbk.at_ 16).trans (by simp [QS.cells,newQ,whoN_len]),hbk.free 16⟩
 ·have h1:=hbk.put 16 (.slice A7 (i+1) c7)
  have h2:(newQ c (i+1) j A7 c7 EA ec).cells.toArray=(newQ c i j WA wc EA ec).cells.toArray.setIfInBounds 16 (.slice A7 (i+1) c7):=by simp [QS.cells,newQ,whoN_len]
  rw [h2];exact h1
 ·exact (h.cfg.keep hkq (fun e=>by have:=hb _ e;omega)).keep hkp (fun e=>by have e2:w.heap.size=g:=e;omega)
 ·exact (h.res.keep hkq (fun e=>by have:=hb _ e;omega)).keep hkp (fun e=>by have e2:w.heap.size+1=g:=e;omega)
 ·exact ho7.keepB hkp (fun b hb2 e=>by have e2:b=g:=e;have:=ho7.block b hb2;omega)
 ·exact (h.ep.keepB hkq (fun b hb2 e=>h.ne b e hb2)).keepB hkp (fun b hb2 e=>by have e2:b=g:=e;have:=h.ep.block b hb2;omega)
 ·intro b hb2 e
  rw [ob_map] at hb2
  rcases hw7 with q | q
  ·exact h.ne b (by rw [←q];exact hb2) e
  ·rw [q] at hb2;injection hb2 with hb2
   have:=h.ep.lt b e
   omega
 ·exact (h.same.trans hkq (fun i hi e=>by have:=hb _ e;omega)).trans hkp (fun i hi e=>by have e2:i=g:=e;omega)
theorem NwI.ep_grow {w w6 w7:World} {g b0:Nat} {c:CF} {i j:Nat} {WA EA A7:Option Addr} {wc ec c7:Nat} (h:NwI w w6 g b0 c i j WA wc EA ec)
 (ho7:Own w7 b0 2 1 (.slice A7 (j+1) c7) (j+1) (icells (List.replicate (j+1) 1))) (hg7:w6.grownBy w7 (Value.slice EA j ec).ownBlock) (hw7:A7.map (·.block)=(Value.slice EA j ec).ownBlock∨A7.map (·.block)=some w6.heap.size) :
 NwI w (w7.setCell ⟨g,17,none⟩ (.slice A7 (j+1) c7)) g b0 c i (j+1) WA wc A7 c7∧w7.cell? ⟨g,17,none⟩=some (.slice EA j ec)∧w7.frozen? ⟨g,17,none⟩=false:=by
 have hkq:Keep (fun b=>(Value.slice EA j ec).ownBlock=some b) w6 w7:=(Keep.refl _ _).grown hg7 (fun x e _=>e)
 have hkp:Keep (fun b=>b=g) w7 (w7.setCell ⟨g,17,none⟩ (.slice A7 (j+1) c7)):=(Keep.refl _ _).put 17 _
 have hb:∀ b,(Value.slice EA j ec).ownBlock=some b→b0≤b:=h.ep.block
 have hg:=h.hg
 have hbk:=h.blk.keep hkq (fun e=>by have:=hb _ e;omega)
 refine ⟨⟨?_,?_,?_,?_,?_,?_,?_,Nat.le_trans h.hb (Nat.le_trans hkq.size hkp.size),h.hg⟩,(hbk.at_ 17).trans (by simp [QS.cells,newQ,whoN_len]),hbk.free 17⟩
 ·have h1:=hbk.put 17 (.slice A7 (j+1) c7)
  have h2:(newQ c i (j+1) WA wc A7 c7).cells.toArray=(newQ c i j WA wc EA ec).cells.toArray.setIfInBounds 17 (.slice A7 (j+1) c7):=by simp [QS.cells,newQ,whoN_len]
  rw [h2];exact h1
 ·exact (h.cfg.keep hkq (fun e=>by have:=hb _ e;omega)).keep hkp (fun e=>by have e2:w.heap.size=g:=e;omega)
 ·exact (h.res.keep hkq (fun e=>by have:=hb _ e;omega)).keep hkp (fun e=>by have e2:w.heap.size+1=g:=e;omega)
 ·exact (h.who.keepB hkq (fun b hb2 e=>h.ne b hb2 e)).keepB hkp (fun b hb2 e=>by have e2:b=g:=e;have:=h.who.block b hb2;omega)
 ·exact ho7.keepB hkp (fun b hb2 e=>by have e2:b=g:=e;have:=ho7.block b hb2;omega)
 ·intro b hb2 e
  rw [ob_map] at e
  rcases hw7 with q | q
  ·exact h.ne b hb2 (by rw [←q];exact e)
  ·rw [q] at e;injection e with e
   have:=h.who.lt b hb2
   omega
 ·exact (h.same.trans hkq (fun i hi e=>by have:=hb _ e;omega)).trans hkp (fun i hi e=>by have e2:i=g:=e;omega)
set_option maxHeartbeats 8000000 in
set_option maxRecDepth 100000 in
theorem newQ_bad (w:World) (c:CF) (hmm:CM w c) (hv:vnum c≠0):Calls Tryz.prog 28 #[.agg c.cells.toArray] w (NQPost w c):=by
 have hm:=(Blk.made w 27 c.cells.toArray).alloc (.cells zero20.toArray 35)
 have hz:=Blk.made (w.alloc (.cells c.cells.toArray 27)) 35 zero20.toArray
 have hw:Same w ((w.alloc (.cells c.cells.toArray 27)).alloc (.cells zero20.toArray 35)):=((Keep.refl _ _).alloc _).alloc _
 rw [World.size_alloc] at hz
 generalize hw1:((w.alloc (.cells c.cells.toArray 27)).alloc (.cells zero20.toArray 35))=w1 at *
 have hsz:w1.heap.size=w.heap.size+2:=by rw [←hw1];simp only [World.size_alloc]
 have HRI:=hid (right_any w1 c (hmm.same hw))
 have HM:=hid hm
 have HZ:=hid hz
 have HW:=hid hw
 have HSZ:=hid hsz
 have HB:=hid (fun (W:World) (hk:Same w1 W)=>show NQPost w c (.returned (.tuple #[.agg zero20.toArray,.int .i64 1])) (W.setRow (w.heap.size+1) zero20.toArray) from
  .inr ⟨hv,rfl,(hw.then hk).trans (Keep.row _ _ _) (fun j hj e=>by have e2:j=w.heap.size+1:=e;omega)⟩)
 have d1:(vnum c != 0)=true:=by simpa using hv
 clear hm hz hw hsz hmm hv
 go_enter Tryz.func28,Tryz.ntmps28
 go_upto_region 1 with fail
 try simp only [zero20] at hw1
 try rw [hw1]
 clear hw1
 go_wp2_with (first
  | (refine wpList_load_row rfl _ (.tmp 1) rfl w.heap.size rfl _ c.cells.toArray (0,0) _ HM.out Tryz.underlying27 rfl (by kernel_rfl) ?_)
  | (go_at_call 58;(with_reducible refine HRI.out.mono ?_);rintro e1 w2 ⟨rfl,hk2⟩;have HK2:=hid hk2;have HZ2:=hid (HZ.out.keep hk2 (fun f=>f));clear hk2)
  | (refine wpList_store_row rfl _ (.tmp 2) (.tmp 9) rfl (w.heap.size+1) zero20.toArray rfl rfl _ _ HZ2.out (by kernel_rfl) rfl (one_toArray zero20_one) ?_))
 refine bodyPost_ret (results_cell_tmp rfl _ _ _ _ _ _ _ _ rfl rfl (HZ2.out.row _) Tryz.underlying35 rfl (by kernel_rfl)) rfl ?_
 exact HB.out _ HK2.out
set_option maxHeartbeats 8000000 in
set_option maxRecDepth 100000 in
theorem newQ_good (w:World) (c:CF) (hmm:CM w c) (hv:vnum c=0):Calls Tryz.prog 28 #[.agg c.cells.toArray] w (NQPost w c):=by
 have hm:=(Blk.made w 27 c.cells.toArray).alloc (.cells zero20.toArray 35)
 have hz:=Blk.made (w.alloc (.cells c.cells.toArray 27)) 35 zero20.toArray
 have hw:Same w ((w.alloc (.cells c.cells.toArray 27)).alloc (.cells zero20.toArray 35)):=((Keep.refl _ _).alloc _).alloc _
 rw [World.size_alloc] at hz
 generalize hw1:((w.alloc (.cells c.cells.toArray 27)).alloc (.cells zero20.toArray 35))=w1 at *
 have hsz:w1.heap.size=w.heap.size+2:=by rw [←hw1];simp only [World.size_alloc]
 have HRI:=hid (right_any w1 c (hmm.same hw))
 have HM:=hid hm
 have HZ:=hid hz
 have HW:=hid hw
 have HSZ:=hid hsz
 have hx:=vnum_all hv
 have hcen:1≤c.cen∧c.cen≤9:=⟨hx.1.1,hx.1.2.1⟩
 obtain ⟨n,hn⟩:=Int.eq_ofNat_of_zero_le (show 0≤c.cen by omega)
 have hn9:n≤9:=by omega
 have HN:=hid hn
 have HPT:=hid (show ∀ (WA:Option Addr) (wc:Nat) (EA:Option Addr) (ec:Nat),(newQ c n n WA wc EA ec).pt=newX c from fun WA wc EA ec=>by
  simp only [newQ,QS.pt,newX,hn,whoN]
  rfl)
 have HVC:=hid hv
 rw [hv] at HRI
 clear hm hz hw hsz hmm hv hx hcen hn
 go_enter Tryz.func28,Tryz.ntmps28
 go_upto_region 1 with fail
 try simp only [zero20] at hw1
 try rw [hw1]
 clear hw1
 go_upto_region 3 with (first
  | (refine wpList_load_row rfl _ (.tmp 1) rfl w.heap.size rfl _ c.cells.toArray (0,0) _ HM.out Tryz.underlying27 rfl (by kernel_rfl) ?_)
  | (go_at_call 58;(with_reducible refine HRI.out.mono ?_);rintro e1 w2 ⟨rfl,hk2⟩;have HK2:=hid hk2;have HM2:=hid (HM.out.keep hk2 (fun f=>f));have HZ2:=hid (HZ.out.keep hk2 (fun f=>f));clear hk2))
 have HZX:=hid (Blk.made w2 35 zero20.toArray)
 go_upto_region 4 with (first
  | (refine wpList_load_row rfl _ (.tmp 1) rfl w.heap.size rfl _ (#[.int .i64 c.cen,.slice c.D c.dis.length c.cD,.slice c.E c.edg.length c.cE,.slice c.U c.uni.length c.cU,.slice c.P c.pla.length c.cP,.int .i64 c.h0,.int .i64 c.h1,.int .i64 c.h2,.int .i64 c.h3,.int .i64 c.h4,.int .i64 c.h5,.int .i64 c.h6,.int .i64 c.h7,.int .i64 c.h8,.int .i64 c.h9]) (0,0) _ HM2.out Tryz.underlying27 rfl (by kernel_rfl) ?_)
  | (refine wpList_store_row rfl _ (.tmp 4) (.tmp 11) rfl w2.heap.size (newQ c 0 0 none 0 none 0).cells.toArray rfl rfl _ _ HZX.out (by kernel_rfl) rfl (one_toArray (q_one _)) ?_))
 have hL3:Blk ((w2.alloc (.cells zero20.toArray 35)).setRow w2.heap.size (newQ c 0 0 none 0 none 0).cells.toArray) w2.heap.size 35 (newQ c 0 0 none 0 none 0).cells.toArray:=HZX.out.row _
 have hk3:Same w2 ((w2.alloc (.cells zero20.toArray 35)).setRow w2.heap.size (newQ c 0 0 none 0 none 0).cells.toArray):=((Keep.refl (fun _=>False) w2).alloc _).trans (Keep.row _ _ _) (fun j hj e=>by have e2:j=w2.heap.size:=e;omega)
 simp only [zero20] at hL3 hk3
 obtain ⟨g,hgd⟩:∃ g,g=w2.heap.size:=⟨_,rfl⟩
 rw [←hgd] at hL3 hk3 ⊢
 obtain ⟨w3,hw3⟩:∃ x,x=(w2.alloc (.cells #[.int .i64 0,.slice none 0 0,.slice none 0 0,.slice none 0 0,.slice none 0 0,.int .i64 0,.int .i64 0,.int .i64 0,.int .i64 0,.int .i64 0,.int .i64 0,.int .i64 0,.int .i64 0,.int .i64 0,.int .i64 0,.slice none 0 0,.slice none 0 0,.slice none 0 0,.slice none 0 0,.slice none 0 0] 35)).setRow g (newQ c 0 0 none 0 none 0).cells.toArray:=⟨_,rfl⟩
 rw [←hw3] at hL3 hk3 ⊢
 have HNI0:=hid (show NwI w w3 g w3.heap.size c 0 0 none 0 none 0 from ⟨hL3,HM2.out.keep hk3 (fun f=>f),HZ2.out.keep hk3 (fun f=>f),Own.nil _ _ _ _,Own.nil _ _ _ _,(fun b hb=>by cases hb),(HW.out.then HK2.out).then hk3,Nat.le_refl _,hL3.lt,by rw [hgd];have h1:=HK2.out.size;have h2:=HSZ.out;omega⟩)
 have HB3:=hid (show w.heap.size≤w3.heap.size from ((HW.out.then HK2.out).then hk3).size)
 clear hL3 hk3 hw3 hgd HZX HM2 HZ2 HK2 HM HZ HRI
 go_wp2_with fail
 go_loopw [5] (fun i wr=>∃ (j:Nat) (WA EA:Option Addr) (wc ec:Nat),j≤n∧i=.int .i64 j∧Hid (NwI w wr g w3.heap.size c j j WA wc EA ec)) (fun i _=>n - (RowKit.intOf i).toNat)
 case atStart=>exact ⟨0,none,none,0,0,Nat.zero_le _,rfl,HNI0⟩
 case round =>
  obtain ⟨j,WA,EA,wc,ec,hj,rfl,HI⟩:=hrel
  have z0:wr.cell? ⟨w.heap.size,0,none⟩=some (.int .i64 (n:Int)):=by rw [←show c.cen=(n:Int) from HN.out];exact HI.out.cfg.at_ 0
  have hj0:(0:Int)≤(j:Int):=Int.natCast_nonneg _
  have hglt:g<wr.heap.size:=HI.out.blk.lt
  by_cases hjn:j<n
  ·have hj1:(j:Int)<(n:Int):=by omega
   have c16:wr.cell? ⟨g,16,none⟩=some (.slice WA j wc):=(HI.out.blk.at_ 16).trans (by simp [QS.cells,newQ,whoN_len])
   have HA:=hid (HI.out.keep ((Keep.refl (fun _=>False) wr).alloc (.cells #[.int .i64 (j:Int)] 3)))
   have HSC:=hid (src_new (w:=wr) (cs:=#[.int .i64 (j:Int)]) (t:=3) (news:=[.int .i64 (j:Int)]) rfl)
   clear HNI0
   go_upto_region 8 with (first
    | (at_builtin
       refine EIn.law2 (.tmp 19) (.tmp 21) (.slice WA j wc) (some ⟨wr.heap.size,0,none⟩) 1 1 rfl rfl rfl rfl w3.heap.size j (icells (whoN j)) [.int .i64 (j:Int)] (j+1) (icells (whoN (j+1))) rfl (by rw [whoN_succ];simp [icells]) HA.out.who rfl (fun _=>⟨_,rfl,HSC.out⟩) (by intro u hu;rw [List.mem_singleton] at hu;subst hu;rfl) (by omega) (by unfold maxLen;omega) HA.out.hb ?_
       intro A7 c7 w7 ho7 hg7 hw7
       have hgr:=HA.out.who_grow ho7 hg7 hw7
       have HI7:=hid hgr.1
       have c16:=hgr.2.1
       have f16:=hgr.2.2
       clear ho7 hg7 hw7 hgr))
   generalize hw8:(w7.setCell ⟨g,16,none⟩ (.slice A7 (j+1) c7))=w8 at *
   clear hw8 c16 f16
   have hglt8:g<w8.heap.size:=HI7.out.blk.lt
   have c17:w8.cell? ⟨g,17,none⟩=some (.slice EA j ec):=(HI7.out.blk.at_ 17).trans (by simp [QS.cells,newQ,whoN_len])
   have HA8:=hid (HI7.out.keep ((Keep.refl (fun _=>False) w8).alloc (.cells #[.int .i64 1] 2)))
   have HSC8:=hid (src_new (w:=w8) (cs:=#[.int .i64 1]) (t:=2) (news:=[.int .i64 1]) rfl)
   go_wp2_with (first
    | (at_builtin
       refine EI64.law2 (.tmp 25) (.tmp 26) (.slice EA j ec) (some ⟨w8.heap.size,0,none⟩) 1 1 rfl rfl rfl rfl w3.heap.size j (icells (List.replicate j 1)) [.int .i64 1] (j+1) (icells (List.replicate (j+1) 1)) rfl (by rw [List.replicate_succ'];simp [icells]) HA8.out.ep rfl (fun _=>⟨_,rfl,HSC8.out⟩) (by intro u hu;rw [List.mem_singleton] at hu;subst hu;rfl) (by omega) (by unfold maxLen;omega) HA8.out.hb ?_
       intro A9 c9 w9 ho9 hg9 hw9
       have hgr:=HA8.out.ep_grow ho9 hg9 hw9
       have HI9:=hid hgr.1
       have c17:=hgr.2.1
       have f17:=hgr.2.2
       clear ho9 hg9 hw9 hgr))
   go_roundw
   case rel=>first | exact ⟨j+1,A7,A9,c7,c9,by omega,by go_num,HI9⟩ | ((repeat apply Exists.intro);refine And.intro ?_ rfl;exact ⟨j+1,A7,A9,c7,c9,by omega,by go_num,HI9⟩)
   case measure=>simp [RowKit.intOf];omega
  ·obtain rfl:j=n:=by omega
   have HM9:=hid HI.out.blk
   have HZ9:=hid HI.out.res
   have HF:=hid (show NQPost w c (.returned (.tuple #[.agg (newQ c j j WA wc EA ec).cells.toArray,.int .i64 0])) (wr.setRow (w.heap.size+1) (newQ c j j WA wc EA ec).cells.toArray) from by
    have hkr:Keep (fun i=>i=w.heap.size+1) wr (wr.setRow (w.heap.size+1) (newQ c j j WA wc EA ec).cells.toArray):=Keep.row _ _ _
    have hg:=HI.out.hg
    refine .inl ⟨HVC.out,_,rfl,?_,HPT.out _ _ _ _,rfl,HI.out.same.trans hkr (fun i hi e=>by have e2:i=w.heap.size+1:=e;omega)⟩
    have h1:=(HI.out.who.keepB hkr (fun b hb e=>by have e2:b=w.heap.size+1:=e;have:=HI.out.who.block b hb;omega)).sl (Av:=fun i=>i<w.heap.size) (fun b hb ha=>by have h9:=HB3.out;have ha2:b<w.heap.size:=ha;omega)
    have h2:=(HI.out.ep.keepB hkr (fun b hb e=>by have e2:b=w.heap.size+1:=e;have:=HI.out.ep.block b hb;omega)).sl (Av:=fun i=>i<w.heap.size) (fun b hb ha=>by have h9:=HB3.out;have ha2:b<w.heap.size:=ha;omega)
    exact ⟨Sl.nil _ _ _ _,(fun _ h=>by cases h),by simpa [newQ,whoN_len] using h1,by simpa [newQ] using h2,Sl.nil _ _ _ _,(fun _ h=>by cases h),Sl.nil _ _ _ _⟩)
   obtain ⟨q9,hq9⟩:∃ q9,q9=newQ c j j WA wc EA ec:=⟨_,rfl⟩
   rw [←hq9] at HM9 HF
   clear hq9 HI HNI0
   go_wp2_with (first
    | (refine wpList_load_row rfl _ (.tmp 4) rfl g rfl _ q9.cells.toArray (0,0) _ HM9.out Tryz.underlying35 rfl (by kernel_rfl) ?_)
    | (refine wpList_store_row rfl _ (.tmp 2) (.tmp 29) rfl (w.heap.size+1) q9.cells.toArray rfl rfl _ _ HZ9.out (by kernel_rfl) rfl (one_toArray (q_one q9)) ?_))
   refine bodyPost_ret (results_cell_tmp rfl _ _ _ _ _ _ _ _ rfl rfl (HZ9.out.row _) Tryz.underlying35 rfl (by kernel_rfl)) rfl ?_
   exact HF.out
theorem newQ_any (w:World) (c:CF) (hmm:CM w c):Calls Tryz.prog 28 #[.agg c.cells.toArray] w (NQPost w c):=by
 by_cases hv:vnum c=0
 ·exact newQ_good w c hmm hv
 ·exact newQ_bad w c hmm hv
def z15:List Value:=[.int .i64 0,.slice none 0 0,.slice none 0 0,.slice none 0 0,.slice none 0 0,.int .i64 0,.int .i64 0,.int .i64 0,.int .i64 0,.int .i64 0,.int .i64 0,.int .i64 0,.int .i64 0,.int .i64 0,.int .i64 0]
def dflt:CF:=⟨0,none,0,[],none,0,[],none,0,[],none,0,[],2,10,12,20,30,4,10,50,1,8⟩
theorem z15_one:∀ u∈z15,u.oneCell'=true:=by
 intro u hu
 simp only [z15,List.mem_cons,List.not_mem_nil,or_false] at hu
 rcases hu with rfl | rfl | rfl | rfl | rfl | rfl | rfl | rfl | rfl | rfl | rfl | rfl | rfl | rfl | rfl <;> rfl
theorem CF.one (c:CF):∀ u∈c.cells,u.oneCell'=true:=by
 intro u hu
 simp only [CF.cells,List.mem_cons,List.not_mem_nil,or_false] at hu
 rcases hu with rfl | rfl | rfl | rfl | rfl | rfl | rfl | rfl | rfl | rfl | rfl | rfl | rfl | rfl | rfl <;> rfl
def DfPost (w:World) (e:Ending) (w':World):Prop:=e=.returned (.agg dflt.cells.toArray)∧Same w w'
set_option maxRecDepth 100000 in
theorem rdefault_any (w:World):Calls Tryz.prog 35 #[] w (DfPost w):=by
 have hz:=Blk.made w 27 z15.toArray
 have HK:=hid ((Keep.refl (fun _=>False) w).alloc (.cells z15.toArray 27))
 simp only [z15] at *
 go_enter Tryz.func35,Tryz.ntmps35
 go_upto_region 1 with fail
 generalize hw1:(w.alloc (.cells #[.int .i64 0,.slice none 0 0,.slice none 0 0,.slice none 0 0,.slice none 0 0,.int .i64 0,.int .i64 0,.int .i64 0,.int .i64 0,.int .i64 0,.int .i64 0,.int .i64 0,.int .i64 0,.int .i64 0,.int .i64 0] 27))=w1 at *
 have HZ:=hid hz
 clear hz
 go_wp2_with (refine wpList_store_row rfl _ (.tmp 0) (.tmp 1) rfl w.heap.size dflt.cells.toArray rfl rfl _ _ HZ.out (by kernel_rfl) rfl (one_toArray (CF.one dflt)) ?_)
 refine bodyPost_ret (results_cell_row rfl _ _ _ _ _ _ _ rfl (HZ.out.row _) Tryz.underlying27 rfl (by kernel_rfl)) rfl ⟨rfl,HK.out.trans (Keep.row _ _ _) (fun i hi e=>by have e2:i=w.heap.size:=e;omega)⟩
def twoC (g:Nat):CF:={ dflt with cen:=2,D:=some ⟨g,0,none⟩,cD:=2,dis:=[0,1] }
def TwoPost (w:World) (e:Ending) (w':World):Prop:=∃ g,e=.returned (.agg (twoC g).cells.toArray)∧CM w' (twoC g)∧Same w w'
theorem two_v (g:Nat):vnum (twoC g)=0:=by kernel_rfl
theorem two_few (g:Nat):Few (twoC g):=fun p hp=>by cases hp
set_option maxHeartbeats 8000000 in
set_option maxRecDepth 100000 in
theorem twoQ (w:World):Calls Tryz.prog 15 #[] w (TwoPost w):=by
 have hz:=Blk.made w 27 z15.toArray
 have hk:=(Keep.refl (fun _=>False) w).alloc (.cells z15.toArray 27)
 have HZ:=hid hz
 have HK:=hid hk
 have HD:=hid (fun W=>rdefault_any W)
 unfold DfPost at HD
 simp only [z15] at hz hk
 clear hz hk
 go_enter Tryz.func15,Tryz.ntmps15
 go_upto_region 1 with fail
 go_upto_region 2 with (first
  | (go_at_call 35
     (with_reducible refine (HD.out _).mono ?_)
     rintro e w1 ⟨rfl,hk1⟩
     have HK1:=hid (HK.out.then hk1)
     have HZ1:=hid (HZ.out.keep hk1 (fun f=>f))
     have HZN:=hid (Blk.made w1 27 z15.toArray)
     clear hk1)
  | (refine wpList_store_row rfl _ (.tmp 1) (.tmp 2) rfl w1.heap.size dflt.cells.toArray rfl rfl _ _ HZN.out (by kernel_rfl) rfl (one_toArray (CF.one dflt)) ?_))
 have hL2:Blk ((w1.alloc (.cells z15.toArray 27)).setRow w1.heap.size dflt.cells.toArray) w1.heap.size 27 dflt.cells.toArray:=HZN.out.row _
 have hk2:Same w1 ((w1.alloc (.cells z15.toArray 27)).setRow w1.heap.size dflt.cells.toArray):=((Keep.refl (fun _=>False) w1).alloc _).trans (Keep.row _ _ _) (fun j hj e=>by have e2:j=w1.heap.size:=e;omega)
 have h01:=HZ1.out.lt
 simp only [z15] at hL2 hk2
 obtain ⟨g,hg⟩:∃ g,g=w1.heap.size:=⟨_,rfl⟩
 rw [←hg] at hL2 hk2 ⊢
 have HG:=hid (show w.heap.size<g by omega)
 have HL2:=hid hL2
 have HK2:=hid (HK1.out.then hk2)
 have HZ2:=hid (HZ1.out.keep hk2 (fun f=>f))
 clear hL2 hk2 hg h01 HZN
 generalize ((w1.alloc (.cells #[.int .i64 0,.slice none 0 0,.slice none 0 0,.slice none 0 0,.slice none 0 0,.int .i64 0,.int .i64 0,.int .i64 0,.int .i64 0,.int .i64 0,.int .i64 0,.int .i64 0,.int .i64 0,.int .i64 0,.int .i64 0] 27)).setRow g dflt.cells.toArray)=w2 at *
 have hlt:=HL2.out.lt
 have c0:w2.cell? ⟨g,0,none⟩=some (.int .i64 0):=HL2.out.at_ 0
 have f0:=HL2.out.free 0
 have c1:w2.cell? ⟨g,1,none⟩=some (.slice none 0 0):=HL2.out.at_ 1
 have f1:=HL2.out.free 1
 go_upto_region 3 with fail
 have hsz4:((w2.setCell ⟨g,0,none⟩ (.int .i64 2)).setCell ⟨g,1,none⟩ (.slice (some ⟨w2.heap.size,0,none⟩) 2 2)).heap.size=w2.heap.size:=by simp
 have hb4:=((HL2.out.put 0 (.int .i64 2)).put 1 (.slice (some ⟨w2.heap.size,0,none⟩) 2 2)).alloc (.cells #[.int .i64 0,.int .i64 1] 3)
 have hb4:Blk (((w2.setCell ⟨g,0,none⟩ (.int .i64 2)).setCell ⟨g,1,none⟩ (.slice (some ⟨w2.heap.size,0,none⟩) 2 2)).alloc (.cells #[.int .i64 0,.int .i64 1] 3)) g 27 (twoC w2.heap.size).cells.toArray:=hb4
 have hd4:=Blk.made ((w2.setCell ⟨g,0,none⟩ (.int .i64 2)).setCell ⟨g,1,none⟩ (.slice (some ⟨w2.heap.size,0,none⟩) 2 2)) 3 #[.int .i64 0,.int .i64 1]
 rw [hsz4] at hd4
 have hkp:Keep (fun i=>i=g) w2 ((w2.setCell ⟨g,0,none⟩ (.int .i64 2)).setCell ⟨g,1,none⟩ (.slice (some ⟨w2.heap.size,0,none⟩) 2 2)):=((Keep.refl (fun i=>i=g) _).put 0 _).put 1 _
 have hz4:=(HZ2.out.keep hkp (fun e=>by have e2:w.heap.size=g:=e;have:=HG.out;omega)).alloc (.cells #[.int .i64 0,.int .i64 1] 3)
 have hk4:Same w (((w2.setCell ⟨g,0,none⟩ (.int .i64 2)).setCell ⟨g,1,none⟩ (.slice (some ⟨w2.heap.size,0,none⟩) 2 2)).alloc (.cells #[.int .i64 0,.int .i64 1] 3)):=(HK2.out.trans hkp (fun j hj e=>by have e2:j=g:=e;have:=HG.out;omega)).alloc _
 obtain ⟨gd,hgd⟩:∃ x,x=w2.heap.size:=⟨_,rfl⟩
 rw [←hgd] at hb4 hd4 hz4 hk4 ⊢
 have HB4:=hid hb4
 have HZ4:=hid hz4
 have hwd:w.heap.size<gd:=by have:=HG.out;omega
 have HF:=hid (fun (W:World) (hk:Keep (fun i=>i=w.heap.size) (((w2.setCell ⟨g,0,none⟩ (.int .i64 2)).setCell ⟨g,1,none⟩ (.slice (some ⟨gd,0,none⟩) 2 2)).alloc (.cells #[.int .i64 0,.int .i64 1] 3)) W)=>show TwoPost w (.returned (.agg (twoC gd).cells.toArray)) W from by
  refine ⟨gd,rfl,?_,hk4.trans hk (fun j hj e=>by have e2:j=w.heap.size:=e;omega)⟩
  have hdd:=hd4.keep hk (fun e=>by have e2:gd=w.heap.size:=e;omega)
  exact ⟨Sl.of_blk hdd (by rfl) (fun f=>f),Sl.nil _ _ _ _,Sl.nil _ _ _ _,Sl.nil _ _ _ _,(fun p hp=>by cases hp),(by show (2:Nat)≤maxLen;unfold maxLen;omega),Nat.zero_le maxLen,Nat.zero_le maxLen,Nat.zero_le maxLen,Nat.zero_le 0⟩)
 clear c0 f0 c1 f1 hb4 hkp hd4 hz4 hk4 hgd hsz4
 generalize (((w2.setCell ⟨g,0,none⟩ (.int .i64 2)).setCell ⟨g,1,none⟩ (.slice (some ⟨gd,0,none⟩) 2 2)).alloc (.cells #[.int .i64 0,.int .i64 1] 3))=w4 at *
 go_wp2_with (first
  | (refine wpList_load_row rfl _ (.tmp 1) rfl g rfl _ (twoC gd).cells.toArray (0,0) _ HB4.out Tryz.underlying27 rfl (by kernel_rfl) ?_)
  | (refine wpList_store_row rfl _ (.tmp 0) (.tmp 6) rfl w.heap.size (twoC gd).cells.toArray rfl rfl _ _ HZ4.out (by kernel_rfl) rfl (one_toArray (CF.one (twoC gd))) ?_))
 refine bodyPost_ret (results_cell_row rfl _ _ _ _ _ _ _ rfl (HZ4.out.row _) Tryz.underlying27 rfl (by kernel_rfl)) rfl ?_
 exact HF.out _ (Keep.row _ _ _)
theorem aw_test (g:Nat):((((newX (twoC g)).dial 0 [] 5).recv 1 2 (encM ⟨8,0,0,1,2,0,[]⟩) 6).recv 0 2 (encM ⟨6,1,0,0,1,0,[]⟩) 7).out.length=2:=by kernel_rfl
structure NewBt (w wr:World) (T:Tags) (p:PS):Prop where
 px:PX wr T p
 same:Same w wr
 new:∀ i,T i≠none→w.heap.size≤i
 fr:Sl wr (fun i=>i<w.heap.size∨T i≠none) 1 p.D p.dis.length (icells p.dis)
theorem NewBt.after {w wr w2:World} {T T2:Tags} {p p2:PS} {S:Nat→Prop} (h:NewBt w wr T p) (hp:PX w2 T2 p2) (hm:Mv wr T w2 T2 S) (hS:∀ i,S i→T i≠none) (hD:p2.D=p.D) (hdis:p2.dis=p.dis):NewBt w w2 T2 p2 :=
 ⟨hp,h.same.trans hm.keep (fun i hi hs=>by have:=h.new i (hS i hs);omega),fun i hi=>by
  rcases hm.new i hi with h1 | h1
  ·exact h.new i h1
  ·exact Nat.le_trans h.same.size h1,by
  rw [hD,hdis]
  exact (h.fr.wide (Av':=fun i=>i<w.heap.size∨T2 i≠none) (fun i hi ha=>ha.imp id (fun ht=>by rw [←hm.old i hi];exact ht))).keep hm.keep (fun i hi hs=>.inr (by rw [hm.old i hi];exact hS i hs))⟩
def NewBPost (w:World) (c:CF) (e:Ending) (w':World):Prop :=
 (vnum c=0∧∃ T p,e=.returned (.tuple #[.pointer (some ⟨p.x,0,none⟩),.int .i64 0])∧p.pt=newX c∧NewBt w w' T p) ∨
 (vnum c≠0∧e=.returned (.tuple #[.pointer none,.int .i64 1])∧Same w w')
set_option maxHeartbeats 8000000 in
set_option maxRecDepth 100000 in
theorem newB_any (w:World) (c:CF) (hm:CM w c):Calls Tryz.prog 27 #[.agg c.cells.toArray] w (NewBPost w c):=by
 have hb0:=Blk.made w 27 c.cells.toArray
 have hw0:=(Keep.refl (fun _=>False) w).alloc (.cells c.cells.toArray 27)
 have HB:=hid (fun W (hk:Same (w.alloc (.cells c.cells.toArray 27)) W)=>hb0.keep (S:=fun _=>False) hk (fun f=>f))
 have HW:=hid hw0
 have HVA:=hid (validate_any (w.alloc (.cells c.cells.toArray 27)) c (hm.same hw0))
 have HM:=hid hm
 have hb1:=cfc hb0
 clear hb0 hw0 hm
 unfold NewBPost
 have HPT:=hid (fun x D dc n hv hc=>newP_pt x c D dc n hv hc)
 generalize hvn:vnum c=vn at *
 by_cases hv:vn=0
 ·subst hv
  have hdu:=vnum_rt hvn
  obtain ⟨⟨n1,n9,d1,d2⟩,_⟩:=vnum_all hvn
  clear hvn
  have hwr:IntKind.i64.wrap (2 * c.h5)=2 * c.h5:=IntWalk.i64_in _ ⟨by omega,by omega⟩
  have HWR:=hid hwr
  clear hwr
  obtain ⟨cen,D,cD,dis,E,cE,edg,U,cU,uni,P,cP,pla,h0,h1,h2,h3,h4,h5,h6,h7,h8,h9⟩:=c
  simp only at n1 n9 d1 d2 hdu
  obtain ⟨n,rfl⟩:=Int.eq_ofNat_of_zero_le (show 0≤cen by omega)
  have HPT:=hid (fun x D dc hv=>HPT.out x D dc n hv rfl)
  obtain ⟨c0,c1,c2,c3,c4,c5,c6,c7,c8,c9,c10,c11,c12,c13,c14,hg⟩:=hb1
  simp only [CF.cells] at *
  go_enter Tryz.func27,Tryz.ntmps27
  go_upto_region 3 with (
   (go_at_call 57;(with_reducible refine HVA.out.mono ?_);rintro e w1 ⟨rfl,hs1⟩;have HS1:=hid hs1;clear hs1 c0 c1 c2 c3 c4 c5 c6 c7 c8 c9 c10 c11 c12 c13 c14))
  have HK1:=hid (HW.out.then HS1.out)
  have hcf:=HB.out _ HS1.out
  have z0:w1.cell? ⟨w.heap.size,0,none⟩=some (.int .i64 (n:Int)):=hcf.at_ 0
  have z1:w1.cell? ⟨w.heap.size,1,none⟩=some (.slice D dis.length cD):=hcf.at_ 1
  have z10:w1.cell? ⟨w.heap.size,10,none⟩=some (.int .i64 h5):=hcf.at_ 10
  have HCF:=hid hcf
  have HDS:=hid (HM.out.dis.same HK1.out)
  clear hcf HVA HB HM HS1 HW
  obtain ⟨q,hq⟩:∃ q,q=w.heap.size:=⟨_,rfl⟩
  rw [←hq] at z0 z1 z10 HCF ⊢
  clear hq
  refine wp_region_held_drew (S:=fun W=>W.cell? ⟨q,0,none⟩=some (.int .i64 (n:Int))∧W.cell? ⟨q,1,none⟩=some (.slice D dis.length cD)∧W.cell? ⟨q,10,none⟩=some (.int .i64 h5)) (by kernel_rfl) ⟨z0,z1,z10⟩ (fun hHeld=>?_)
  refine tk 0 ?_
  refine tk 1 ?_
  refine tk 2 ?_
  refine tk 3 ?_
  refine tk 5 ?_
  refine tk 6 ?_
  have hwr:=HWR.out
  refine tk 7 ?_
  have HCd:=hid (HCF.out.keep (Keep.refl (fun _=>False) w1).drew (fun f=>f))
  have HDd:=hid (HDS.out.same (Keep.refl (fun _=>False) w1).drew)
  have HKd:=hid (HK1.out.drew)
  clear hHeld z0 z1 z10 HCF HDS HK1 hwr
  generalize w1.drew=wd at *
  refine rd1 4 (fun K hK=>?_)
  refine EIn.step2 rfl (.const (.slice none 0 0)) (.tmp 12) rfl (.slice none 0 0) D dis.length cD rfl rfl wd.heap.size 0 [] (icellsC dis) dis.length _ (Nat.zero_add _) rfl (Own.nil _ _ _ _) (by simp [icellsC]) (HDd.out.src (Keep.refl (fun _=>False) _)) (icells_one _) (by omega) (by unfold maxLen;omega) (Nat.le_refl _) (by
   intro A2 e2 w4 ho hg hw
   have hk4:Same wd w4:=(Keep.refl (fun _=>False) wd).app (Own.nil wd wd.heap.size 3 1) hg (fun g h1 h2=>by omega)
   have HO:=hid ho.slN
   have HK4:=hid (HKd.out.then hk4)
   have hb4:=HCd.out.keep hk4 (fun f=>f)
   have HB4:=hid hb4
   clear ho hg hw
   refine hK.out _ _ ⟨(hb4.at_ 0).trans rfl,(hb4.at_ 1).trans rfl,(hb4.at_ 10).trans rfl⟩ (fun hHeld=>?_)
   clear hK K hb4 hk4
   refine pput ?_
   refine tk 8 ?_
   refine rd1 9 (fun K hK=>?_)
   go_simp
   have hbx:=Blk.made w4 94 #[.int .i64 (n:Int),.slice A2 dis.length e2,.int .i64 (2 * h5),.slice none 0 0,.slice none 0 0,.slice none 0 0,.slice none 0 0]
   have hka:Same w4 (w4.alloc (.cells #[.int .i64 (n:Int),.slice A2 dis.length e2,.int .i64 (2 * h5),.slice none 0 0,.slice none 0 0,.slice none 0 0,.slice none 0 0] 94)):=(Keep.refl _ _).alloc _
   have hb5:=HB4.out.keep hka (fun f=>f)
   have HN0:=hid (show NewBt w (w4.alloc (.cells #[.int .i64 (n:Int),.slice A2 dis.length e2,.int .i64 (2 * h5),.slice none 0 0,.slice none 0 0,.slice none 0 0,.slice none 0 0] 94)) (fun i=>if i=w4.heap.size then some .hdr else none) (newP w4.heap.size (n:Int) A2 e2 dis h5 0 (.slice none 0 0)) from by
    refine ⟨⟨hbx,if_pos rfl,?_,⟨Own.nil _ _ _ _,fun g hg=>by simp [newP,Value.ownBlock] at hg⟩,⟨Own.nil _ _ _ _,fun g hg=>by simp [newP,Value.ownBlock] at hg⟩,(fun k x hx=>by simp [newP] at hx),⟨Own.nil _ _ _ _,fun g hg=>by simp [newP,Value.ownBlock] at hg⟩,(fun y hy=>by cases hy),⟨Own.nil _ _ _ _,fun g hg=>by simp [newP,Value.ownBlock] at hg⟩,?_⟩,HK4.out.then hka,?_,?_⟩
    ·refine (HO.out.wide (fun i hi ht=>?_)).same hka
     by_cases e:i=w4.heap.size
     ·omega
     ·rw [if_neg e] at ht;exact absurd rfl ht
    ·intro i hi
     by_cases e:i=w4.heap.size
     ·rw [World.size_alloc];omega
     ·rw [if_neg e] at hi;exact absurd rfl hi
    ·intro i hi
     by_cases e:i=w4.heap.size
     ·have:=HK4.out.size;omega
     ·rw [if_neg e] at hi;exact absurd rfl hi
    ·refine (HO.out.wide (fun i hi ht=>?_)).same hka
     rcases ht with ht | ht
     ·have:=HKd.out.size;omega
     ·by_cases e:i=w4.heap.size
      ·omega
      ·rw [if_neg e] at ht;exact absurd rfl ht)
   obtain ⟨xb,hxb⟩:∃ x,x=w4.heap.size:=⟨_,rfl⟩
   rw [←hxb] at HN0 ⊢
   generalize (w4.alloc (.cells #[.int .i64 (n:Int),.slice A2 dis.length e2,.int .i64 (2 * h5),.slice none 0 0,.slice none 0 0,.slice none 0 0,.slice none 0 0] 94))=w5 at *
   generalize (fun i=>if i=xb then some Tag.hdr else none:Tags)=T0 at *
   have z0:w5.cell? ⟨q,0,none⟩=some (.int .i64 (n:Int)):=(hb5.at_ 0).trans rfl
   refine hK.out _ _ ⟨z0,(hb5.at_ 1).trans rfl,(hb5.at_ 10).trans rfl⟩ (fun hHeld2=>?_)
   clear hK K hb5 hbx hka hxb HB4 HK4 HO
   refine pput ?_
   refine tk 10 ?_
   refine wpAnyH_done (by kernel_rfl) ?_ _
   clear hHeld hHeld2 HCd HDd HKd
   go_wp2_with fail
   go_loopw [21] (fun i wr=>∃ (j:Nat) (vj:Value) (T:Tags),j≤n∧i=.int .i64 j∧Hid (NewBt w wr T (newP xb (n:Int) A2 e2 dis h5 j vj))) (fun i _=>n - (intOf i).toNat)
   case atStart=>exact ⟨0,_,T0,by omega,rfl,HN0⟩
   case round =>
    obtain ⟨j,vj,T,hj,rfl,HI⟩:=hrel
    by_cases hlt:j<n
    ·have c3:wr.cell? ⟨xb,3,none⟩=some vj:=(HI.out.px.hdr.at_ 3).trans rfl
     have hj1:(j:Int)<(n:Int):=by omega
     have HNA:=hid (show NewBt w (wr.alloc (.cells #[.int .i64 (j:Int),.int .i64 1] 134)) T (newP xb (n:Int) A2 e2 dis h5 j vj) from ⟨HI.out.px.same ((Keep.refl _ _).alloc _),HI.out.same.alloc _,HI.out.new,HI.out.fr.same ((Keep.refl _ _).alloc _)⟩)
     have HOW:=hid (show Own (wr.alloc (.cells #[.int .i64 (j:Int),.int .i64 1] 134)) 0 134 2 vj j ((hrow j).flatMap hcells) from by
      have:=HNA.out.px.hold.own
      rw [show (newP xb (n:Int) A2 e2 dis h5 j vj).hold.length=j from hrow_len j] at this
      exact this)
     have HSC:=hid (src_new (w:=wr) (cs:=#[.int .i64 (j:Int),.int .i64 1]) (t:=134) (news:=hcells ((j:Int),1)) rfl)
     clear HN0 z0
     go_wp2_with (first
      | (at_builtin
         refine EHd.law2 (.tmp 28) (.tmp 31) vj (some ⟨wr.heap.size,0,none⟩) 1 1 rfl rfl rfl rfl 0 j ((hrow j).flatMap hcells) (hcells ((j:Int),1)) (j+1) ((hrow (j+1)).flatMap hcells) rfl (by rw [hrow_succ,List.flatMap_append,List.flatMap_singleton]) HOW.out rfl (fun _=>⟨_,rfl,HSC.out⟩) (by intro u hu;simp only [hcells,List.mem_cons,List.not_mem_nil,or_false] at hu;rcases hu with rfl | rfl <;> rfl) (by omega) (by unfold maxLen;omega) (Nat.zero_le _) ?_
         intro A7 c7 w7 ho7 hg7 hw7
         have hgr:=HNA.out.px.grow_hold (y:=((j:Int),1)) hg7 (by
          rw [show (newP xb (n:Int) A2 e2 dis h5 j vj).hold.length=j from hrow_len j,show (newP xb (n:Int) A2 e2 dis h5 j vj).hold++[((j:Int),1)]=hrow (j+1) from (hrow_succ j).symm]
          exact ho7) (own_or hw7)
         have HN7:=hid (HNA.out.after hgr.1 hgr.2 (tags_ne (grow_tags HNA.out.px HNA.out.px.hold)) rfl rfl)
         have hh7:=grow_hdr HNA.out.px HNA.out.px.hold hg7 (fun h=>by cases h)
         have c3':w7.cell? ⟨xb,3,none⟩=some vj:=(hh7.at_ 3).trans rfl
         have f3:w7.frozen? ⟨xb,3,none⟩=false:=hh7.free 3
         clear ho7 hg7 hw7 hgr hh7))
     go_roundw
     case rel =>
      have HF:=hid (show NewBt w (w7.setCell ⟨xb,3,none⟩ (.slice A7 (j+1) c7)) (T.set (Value.slice A7 (j+1) c7).ownBlock .hold) (newP xb (n:Int) A2 e2 dis h5 (j+1) (.slice A7 (j+1) c7)) from by
       have:=HN7.out
       unfold newP at this ⊢
       rw [hrow_succ]
       exact this)
      first | exact ⟨j+1,_,_,by omega,by go_num,HF⟩ | ((repeat apply Exists.intro);refine And.intro ?_ rfl;exact ⟨j+1,_,_,by omega,by go_num,HF⟩)
     case measure=>simp [intOf];omega
    ·obtain rfl:j=n:=by omega
     go_wp2_with fail
     go_ret2
     exact .inl ⟨trivial,T,newP xb (j:Int) A2 e2 dis h5 j vj,rfl,HPT.out _ _ _ _,HI.out⟩)
 ·have hv':(vn != 0)=true:=by simpa using hv
  obtain ⟨cen,D,cD,dis,E,cE,edg,U,cU,uni,P,cP,pla,h0,h1,h2,h3,h4,h5,h6,h7,h8,h9⟩:=c
  obtain ⟨c0,c1,c2,c3,c4,c5,c6,c7,c8,c9,c10,c11,c12,c13,c14,hg⟩:=hb1
  simp only [CF.cells] at *
  have HV:=hid hv
  clear hv hvn
  go_enter Tryz.func27,Tryz.ntmps27
  go_wp2_with (
   (go_at_call 57;(with_reducible refine HVA.out.mono ?_);rintro e w1 ⟨rfl,hs1⟩;have HS1:=hid hs1;clear hs1))
  go_ret2
  exact .inr ⟨HV.out,rfl,HW.out.then HS1.out⟩
def XOwn (X:XS):Prop:=∀ (i:Nat) (l:Ln),X.L[i]? = some l→l.s.st≠5→(l.s.cen,l.s.ep)=X.hold l.d
structure SameOwn (s s':CL):Prop where
 cen:s'.cen=s.cen
 ep:s'.ep=s.ep
 op:s'.st≠5→s.st≠5
theorem accept_so (s:CL) (e:Int) (nm:ByteArray) (v:Int):SameOwn s (acceptS s e nm v):=by
 unfold acceptS
 split
 ·refine ⟨rfl,rfl,fun h=>?_⟩
  simp only at h
  split at h <;> omega
 ·exact ⟨rfl,rfl,id⟩
theorem say_so (s:CL) (a:Int):SameOwn s (sayS s a):=by
 unfold sayS
 split
 ·rename_i h
  refine ⟨rfl,rfl,fun _=>?_⟩
  unfold sayE at h
  split at h
  ·cases h
  ·split at h
   ·cases h
   ·omega
 ·exact ⟨rfl,rfl,id⟩
theorem hang_so (s:CL) (t:Int):SameOwn s (hangS s t):=by
 unfold hangS
 split
 ·rename_i h
  refine ⟨rfl,rfl,fun _=>?_⟩
  unfold hangE at h
  split at h
  ·split at h
   ·cases h
   ·omega
  ·cases h
 ·exact ⟨rfl,rfl,id⟩
theorem back_so (s:CL) (e:Int):SameOwn s (backS s e):=by
 unfold backS
 split
 ·rename_i h
  refine ⟨rfl,rfl,fun _=>?_⟩
  unfold backE at h
  split at h
  ·split at h
   ·cases h
   ·split at h
    ·omega
    ·cases h
  ·cases h
 ·exact ⟨rfl,rfl,id⟩
theorem close_so (s:CL) (e:Int):SameOwn s (closeS s e):=by
 unfold closeS
 split
 ·exact ⟨rfl,rfl,fun h=>absurd rfl h⟩
 ·exact ⟨rfl,rfl,id⟩
section
variable {X:XS} {i:Nat} {l l':Ln} {now:Int}
theorem XOwn.put (h:XOwn X) (hl:X.L[i]? = some l) (so:SameOwn l.s l'.s) (hd:l'.d=l.d):XOwn (X.put i l'):=by
 intro j m hm hst
 have hm:(X.L.set i l')[j]? = some m:=hm
 show _=X.hold m.d
 rw [List.getElem?_set] at hm
 by_cases e:i=j
 ·subst e
  rw [if_pos rfl] at hm
  split at hm
  ·cases hm
   rw [so.cen,so.ep,hd]
   exact h i l hl (so.op hst)
  ·cases hm
 ·rw [if_neg e] at hm;exact h j m hm hst
theorem XOwn.evt (h:XOwn X) (e:Ev):XOwn (X.evt e):=h
theorem XOwn.offer (h:XOwn X) (hl:X.L[i]? = some l):XOwn (X.offer i l now):=h.put (l':={ l with last:=max l.last now }) hl ⟨rfl,rfl,id⟩ rfl
def XOwnBut (X:XS) (i:Nat):Prop:=∀ (j:Nat) (l:Ln),j≠i→X.L[j]? = some l→l.s.st≠5→(l.s.cen,l.s.ep)=X.hold l.d
theorem XOwnBut.bind (h:XOwnBut X i) (hE:assignE l.s (X.hold l.d).1 (X.hold l.d).2 now=0):XOwn (X.bind i l now):=by
 intro j m hm hst
 have hm:((X.L.set i { l with s:=assignS l.s (X.hold l.d).1 (X.hold l.d).2 now }).set i { l with s:=assignS l.s (X.hold l.d).1 (X.hold l.d).2 now,last:=max l.last now })[j]? = some m:=hm
 show _=X.hold m.d
 rw [List.set_set,List.getElem?_set] at hm
 by_cases e:i=j
 ·rw [if_pos e] at hm
  split at hm
  ·cases hm
   simp only
   unfold assignS
   rw [if_pos hE]
  ·cases hm
 ·rw [if_neg e] at hm;exact h j m (fun e2=>e e2.symm) hm hst
theorem XOwn.but (h:XOwn X) (i:Nat):XOwnBut X i:=fun j m _ hm hst=>h j m hm hst
theorem stepT_own (h:XOwn X) (i:Nat):XOwn (stepT now X i):=by
 unfold stepT
 split
 ·rename_i l hl
  split
  ·exact h.offer hl
  ·exact h
 ·exact h
theorem tickN_own (h:XOwn X):∀ j,XOwn (X.tickN now j)
 | 0=>h
 | j+1=>by rw [tickN_succ];exact stepT_own (tickN_own h j) j
theorem XOwn.tick (h:XOwn X):XOwn (X.tick now):=by
 unfold XS.tick
 split
 ·exact tickN_own h _
 ·exact h
structure ClInv (X:XS) (m:Nt) (now:Int) (j:Nat) (Y:XS):Prop where
 who:Y.who=(X.take m).who
 ep:Y.ep=(X.take m).ep
 rest:∀ i,j≤i→Y.L[i]? = X.L[i]?
 own:∀ (i:Nat) (l:Ln),Y.L[i]? = some l→l.s.st≠5→(i<j∨l.d≠m.d)→(l.s.cen,l.s.ep)=(X.take m).hold l.d
theorem hold_eq {X Y:XS} (h1:Y.who=X.who) (h2:Y.ep=X.ep) (d:Int):Y.hold d=X.hold d:=by unfold XS.hold;rw [h1,h2]
theorem take_hold_ne {X:XS} {m:Nt} {d:Int} (hd:0≤d) (hm:0≤m.d) (h:d≠m.d):(X.take m).hold d=X.hold d:=by
 unfold XS.hold XS.take
 simp only
 rw [List.getElem?_set_ne (by omega),List.getElem?_set_ne (by omega)]
theorem take_hold {X:XS} {m:Nt} (hm:0≤m.d) (hw:m.d<X.who.length) (he:m.d<X.ep.length):(X.take m).hold m.d=(m.c,m.e):=by
 unfold XS.hold XS.take
 simp only
 rw [List.getElem?_set_self (by omega),List.getElem?_set_self (by omega)]
 rfl
theorem claim_assign {X Y:XS} {m:Nt} {j:Nat} (hown:XOwn X) (hI:ClInv X m now j Y) (hm:vM m=true) (he:(X.hold m.d).2<m.e) (h1:1≤m.e) (hv:vN now 0=true) (hl:Y.L[j]? = some l) (hd:l.d=m.d) (hst:l.s.st≠5):assignE l.s m.c m.e now=0:=by
 have h2:=hown j l (by rw [←hI.rest j (Nat.le_refl _)];exact hl) hst
 rw [hd] at h2
 have h3:l.s.ep=(X.hold m.d).2:=congrArg Prod.snd h2
 have k1:=(vM_iff.1 hm).2.2.2.2.2.1
 have k2:=(vM_iff.1 hm).2.2.1
 unfold assignE
 rw [if_pos ⟨k1,by
  have:=vN_true k2
  unfold vN
  simp only [Bool.and_eq_true,decide_eq_true_eq]
  omega,hv⟩,if_neg (by omega),if_neg hst]
theorem ClInv.step {X Y:XS} {m:Nt} {j:Nat} (hok:XOk X) (hown:XOwn X) (hI:ClInv X m now j Y) (hm:vM m=true) (hdl:m.d<X.who.length) (he:(X.hold m.d).2<m.e) (h1:1≤m.e) (hv:vN now 0=true):ClInv X m now (j+1) (stepC m.d now Y j):=by
 have hd0:=(vC_true (vM_iff.1 hm).2.2.2.2.1).1
 have hel:m.d<X.ep.length:=by have:=hok.wl;have:=hok.el;omega
 have hth:=take_hold hd0 hdl hel (X:=X)
 unfold stepC
 split
 ·rename_i l hl
  split
  ·rename_i hc
   have hA:=claim_assign hown hI hm he h1 hv hl hc.1 hc.2
   have hh:Y.hold l.d=(m.c,m.e):=by rw [hold_eq hI.who hI.ep,hc.1];exact hth
   refine ⟨hI.who,hI.ep,fun i hi=>?_,fun i l2 hl2 hst hor=>?_⟩
   ·show ((Y.L.set j _).set j _)[i]? = _
    rw [List.set_set,List.getElem?_set_ne (by omega)]
    exact hI.rest i (by omega)
   ·have hl2:((Y.L.set j { l with s:=assignS l.s (Y.hold l.d).1 (Y.hold l.d).2 now }).set j { l with s:=assignS l.s (Y.hold l.d).1 (Y.hold l.d).2 now,last:=max l.last now })[i]? = some l2:=hl2
    rw [List.set_set,List.getElem?_set] at hl2
    by_cases e:j=i
    ·rw [if_pos e] at hl2
     split at hl2
     ·cases hl2
      simp only
      rw [hh]
      unfold assignS
      rw [if_pos hA,hc.1,hth]
     ·cases hl2
    ·rw [if_neg e] at hl2
     exact hI.own i l2 hl2 hst (by omega)
  ·rename_i hc
   refine ⟨hI.who,hI.ep,fun i hi=>hI.rest i (by omega),fun i l2 hl2 hst hor=>?_⟩
   by_cases e:i=j
   ·subst e
    rw [hl] at hl2;cases hl2
    exact hI.own i l hl hst (.inr (fun h=>hc ⟨h,hst⟩))
   ·exact hI.own i l2 hl2 hst (by omega)
 ·rename_i hl
  refine ⟨hI.who,hI.ep,fun i hi=>hI.rest i (by omega),fun i l2 hl2 hst hor=>?_⟩
  by_cases e:i=j
  ·subst e;rw [hl] at hl2;cases hl2
  ·exact hI.own i l2 hl2 hst (by omega)
theorem ClInv.start {X:XS} {m:Nt} (hok:XOk X) (hown:XOwn X) (hm:vM m=true):ClInv X m now 0 (X.take m):=by
 have hd0:=(vC_true (vM_iff.1 hm).2.2.2.2.1).1
 refine ⟨rfl,rfl,fun _ _=>rfl,fun i l hl hst hor=>?_⟩
 rcases hor with h | h
 ·omega
 ·rw [take_hold_ne (hok.ln i l hl).2.1.1 hd0 h]
  exact hown i l hl hst
theorem ClInv.all {X:XS} {m:Nt} (hok:XOk X) (hown:XOwn X) (hm:vM m=true) (hdl:m.d<X.who.length) (he:(X.hold m.d).2<m.e) (h1:1≤m.e) (hv:vN now 0=true):∀ j,ClInv X m now j ((X.take m).claimN m.d now j)
 | 0=>ClInv.start hok hown hm
 | j+1=>by rw [claimN_succ];exact ClInv.step hok hown (ClInv.all hok hown hm hdl he h1 hv j) hm hdl he h1 hv
theorem hold_le (hok:XOk X) {d:Int} (h0:0≤d) (h1:d<X.who.length):1≤(X.hold d).2:=by
 have:=hok.wl
 obtain ⟨a,b,_,_,e,_,hb⟩:=hok.hold (d:=d) ⟨h0,by omega⟩
 rw [e];exact hb.1
theorem XOwn.claim (h:XOwn X) (hok:XOk X) {m:Nt} (hm:vM m=true) (hv:vN now 0=true):XOwn (X.claim m now):=by
 unfold XS.claim
 split
 ·rename_i hc
  have hd0:=(vC_true (vM_iff.1 hm).2.2.2.2.1).1
  have h1:=hold_le hok hd0 hc.1
  have hI:=ClInv.all hok h hm hc.1 hc.2 (by omega) hv X.L.length
  intro i l hl hst
  rw [hold_eq hI.who hI.ep]
  refine hI.own i l hl hst (.inl ?_)
  have:=(claimN_eq (X.take m) m.d now X.L.length).n
  have h3:=(List.getElem?_eq_some_iff.1 hl).1
  have h4:(X.take m).L.length=X.L.length:=rfl
  omega
 ·exact h
theorem XOwn.ack (h:XOwn X) {k:Nat} (hl:X.L[k]? = some l) (m:Nt):XOwn (X.ack k l m now):=by
 unfold XS.ack
 split
 ·exact h.put hl (by
   have:=accept_so l.s m.e ⟨(ackR m.body).1.toArray⟩ (ackR m.body).2.1
   exact ⟨this.cen,this.ep,this.op⟩) rfl
 ·exact h
theorem XOwn.hear (h:XOwn X) (hok:XOk X) {m:Nt} (hm:vM m=true) (hv:vN now 0=true):XOwn (X.hear m now):=by
 unfold XS.hear
 split
 ·exact h.claim hok hm hv
 ·split
  ·exact h
  ·split
   ·exact h
   ·rename_i k hk l hl
    split
    ·exact h
    ·split
     ·exact h.ack hl m
     ·split
      ·exact h.put hl (back_so _ _) rfl
      ·split
       ·exact (h.put hl (l':={ l with s:=closeS l.s m.e }) (close_so _ _) rfl).evt _
       ·exact h
theorem dial_assign (hok:XOk X) {call:Int} {d:Int} {src:List Src} (hd:0≤d∧d<X.cen) (hv:vN now 0=true):assignE (newL call d now src).s (X.hold d).1 (X.hold d).2 now=0:=by
 obtain ⟨a,b,_,_,e,ha,hb⟩:=hok.hold hd
 have h9:=hok.c9
 rw [e]
 unfold assignE newL
 simp only
 rw [if_pos ⟨by unfold vC;simp only [Bool.and_eq_true,decide_eq_true_eq];omega,by unfold vN;simp only [Bool.and_eq_true,decide_eq_true_eq];omega,hv⟩,if_neg (by omega),if_neg (by omega)]
theorem XOwn.dial (h:XOwn X) (hok:XOk X) (node:Int) (src:List Src):XOwn (X.dial node src now):=by
 unfold XS.dial
 split
 ·rename_i hE
  have hE2:(0≤node∧node<X.dis.length)∧vN now 0=true:=by
   unfold XS.dialE at hE
   split at hE
   ·assumption
   ·cases hE
  obtain ⟨d,hd,hd0,hd1⟩:=dis_at hok hE2.1
  rw [hd]
  refine XOwnBut.bind (fun j m hj hm hst=>?_) (dial_assign hok ⟨hd0,hd1⟩ hE2.2)
  have hm:(X.L++[newL ((X.L.length:Int)+1) ((some d).getD 0) now src])[j]? = some m:=hm
  have hlt:=(List.getElem?_eq_some_iff.1 hm).1
  simp at hlt
  rw [List.getElem?_append_left (by omega)] at hm
  exact h j m hm hst
 ·exact h
theorem XOwn.ans (h:XOwn X) (call a:Int):XOwn (X.ansS call a now):=by
 unfold XS.ansS
 split
 ·split
  ·exact h
  ·split
   ·rename_i k _ _ l hl
    exact ((h.put hl (l':={ l with s:=sayS l.s a }) (say_so _ _) rfl).evt _).offer (by
     show (X.L.set k _)[k]? = _
     rw [List.getElem?_set_self (List.getElem?_eq_some_iff.1 hl).1])
   ·exact h
 ·exact h
theorem XOwn.hang (h:XOwn X) (call:Int):XOwn (X.hangS call now):=by
 unfold XS.hangS
 split
 ·split
  ·exact h
  ·split
   ·rename_i k _ _ l hl
    exact ((h.put hl (l':={ l with s:=Go.Proofs.YtbjddfiledoaoaaGreat.hangS l.s now }) (hang_so _ _) rfl).evt _).offer (by
     show (X.L.set k _)[k]? = _
     rw [List.getElem?_set_self (List.getElem?_eq_some_iff.1 hl).1])
   ·exact h
 ·exact h
theorem XOwn.recv (h:XOwn X) (hok:XOk X) (f t:Int) (b:List UInt8):XOwn (X.recv f t b now):=by
 unfold XS.recv
 split
 ·rename_i hc
  split
  ·rename_i he
   exact h.hear hok (errM_vM he.1) hc.1
  ·exact h
 ·exact h
end
theorem newX_own (c:CF):XOwn (newX c):=fun i l hl=>by simp [newX] at hl
end Go.Proofs.YtbjddfiledoaoaaGreat

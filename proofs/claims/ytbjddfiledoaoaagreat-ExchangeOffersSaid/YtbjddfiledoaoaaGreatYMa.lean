import Derived.Test.YtbjddfiledoaoaaGreatYM
import Derived.Test.YtbjddfiledoaoaaGreatYI
namespace Go.Proofs.YtbjddfiledoaoaaGreat
open Go.RowKit
set_option maxHeartbeats 8000000 in
set_option maxRecDepth 100000 in
theorem hear_took (w:World) (Av:Nat→Prop) (hAv:∀ i,Av i→i<w.heap.size) (q:QS) (h:RX w Av q) (hok:XOk q.pt) (_hown:XOwn q.pt) (hn:q.R.length≤1000) (hno:q.out.length≤800000) (hne:q.ev.length≤800000) (now:Int) (m:Nt) (A:Option Addr) (cap:Nat) (hm:vM m=true) (hb:Sl w Av 1 A m.body.length (bcells m.body)) (hv:vN now 0=true) (hc:m.c<q.c.cen) (h8:m.k≠8) (k:Nat) (hi:idx q.R.length m.call=some k) (x:QA) (hx:q.R[k]? = some x) (hcn:x.s.cen=m.c) (hep:x.s.ep=m.e) (hst:x.s.st≠5) (h5:m.k=5):Calls Tryz.prog 65 #[.agg q.cells.toArray,.agg (m.cells A cap).toArray,.int .i64 now] w (QPost w Av q.c (q.pt.ack k x.pt m now)):=by
 have hm0:=((Blk.made w 35 q.cells.toArray).alloc (.cells (m.cells A cap).toArray 46)).alloc (.cells zero20.toArray 35)
 have he:=(Blk.made (w.alloc (.cells q.cells.toArray 35)) 46 (m.cells A cap).toArray).alloc (.cells zero20.toArray 35)
 have hz:=Blk.made ((w.alloc (.cells q.cells.toArray 35)).alloc (.cells (m.cells A cap).toArray 46)) 35 zero20.toArray
 have hw:Same w (((w.alloc (.cells q.cells.toArray 35)).alloc (.cells (m.cells A cap).toArray 46)).alloc (.cells zero20.toArray 35)):=(((Keep.refl _ _).alloc _).alloc _).alloc _
 rw [World.size_alloc] at he
 rw [World.size_alloc,World.size_alloc] at hz
 generalize hw1:(((w.alloc (.cells q.cells.toArray 35)).alloc (.cells (m.cells A cap).toArray 46)).alloc (.cells zero20.toArray 35))=w1 at *
 have hsz:w1.heap.size=w.heap.size+3:=by rw [←hw1];simp only [World.size_alloc]
 have HVT:=hid (fun W=>show Calls Tryz.prog 101 #[.int .i64 now] W (fun e w'=>e=.returned (.bool (vN now 0))∧W=w') from rtick_any W now)
 have HFIN:=hid (fun (A2:Nat→Prop) (qj:QS) (W:World) (Y:XS) (hr:RX W A2 qj) (hA:∀ j,j=w.heap.size+1+1∨Av j→A2 j) (hp:qj.pt=Y) (hc:qj.c=q.c) (hk:Same w W)=>show QPost w Av q.c Y (.returned (.agg qj.cells.toArray)) (W.setRow (w.heap.size+1+1) qj.cells.toArray) from by
  have hkr:Keep (fun j=>j=w.heap.size+1+1) W (W.setRow (w.heap.size+1+1) qj.cells.toArray):=Keep.row _ _ _
  exact ⟨qj,rfl,(hr.keep hkr (fun j _ e=>hA j (.inl e))).wide (fun j _ hj=>hA j (.inr hj)),hp,hc,hk.trans hkr (fun j hj e=>by have e2:j=w.heap.size+1+1:=e;omega)⟩)
 have HSAME:=hid (fun (W:World) (hk:Same w1 W)=>HFIN.out (AvN w Av w1) q W q.pt (h.later (hw.then hk) AvN.or) (fun j hj=>hj.elim (fun e=>.inr (by omega)) .inl) rfl rfl (hw.then hk))
 have HM:=hid hm0
 have HN:=hid he
 have HZ:=hid hz
 have HW:=hid hw
 have HR:=hid h
 have HAV:=hid hAv
 have HSZ:=hid hsz
 have HOK:=hid hok
 have HML:=hid (And.intro hn (And.intro hno hne))
 have h03:w.heap.size<w1.heap.size:=by omega
 have h13:w.heap.size+1<w1.heap.size:=by omega
 have c0:w1.cell? ⟨w.heap.size,0,none⟩=some (.int .i64 q.c.cen):=hm0.at_ 0
 have n0:w1.cell? ⟨w.heap.size+1,0,none⟩=some (.int .i64 m.k):=he.at_ 0
 have n1:w1.cell? ⟨w.heap.size+1,1,none⟩=some (.int .i64 m.call):=he.at_ 1
 have n3:w1.cell? ⟨w.heap.size+1,3,none⟩=some (.int .i64 m.c):=he.at_ 3
 have HV:=hid hv
 have d1:decide (q.c.cen≤m.c)=false:=decide_eq_false (by omega)
 have d8:(m.k == 8)=false:=by simpa using h8
 have HFI:=hid (fun W=>show Calls Tryz.prog 16 #[.agg q.cells.toArray,.int .i64 m.call] W (fun e w'=>e=.returned (.int .i64 (k:Int))∧Same W w') from by
  have:=findQ W q hn m.call
  unfold findI at this
  rw [hi] at this
  exact this)
 obtain ⟨hcall,hkl⟩:=idx_some hi
 have HKL:=hid hkl
 obtain ⟨rb,off,hLA,hrb,_,hrow⟩:=(h.L.same hw).at_ (by omega)
 have hrg:=range_row hrow hx
 have HRX:=hid hrg
 have z15:w1.cell? ⟨w.heap.size,15,none⟩=some (.slice q.LA q.R.length q.lc):=hm0.at_ 15
 rw [hLA] at z15
 have HZ15:=hid z15
 have hkk:(k:Int)<(q.R.length:Int):=by omega
 have hk0:(0:Int)≤(k:Int):=Int.natCast_nonneg _
 have dk:decide ((k:Int)<0)=false:=decide_eq_false (by omega)
 have hxp:q.pt.L[k]? = some x.pt:=by show (q.R.map QA.pt)[k]? = _;rw [List.getElem?_map,hx];rfl
 have HVL:=hid (hok.ln k x.pt hxp).1
 have HXX:=hid hx
 have HRL:=hid (fun (W W2:World) (hk:Same w W)=>show RX W (AvN w Av W2) q from h.later hk AvN.or)
 have e1:(x.s.cen != m.c)=false:=by simpa using hcn
 have e2:(x.s.ep != m.e)=false:=by simpa using hep
 have e3:(x.s.st == 5)=false:=by simpa using hst
 have HBB:=hid (fun (W:World) (hk:Same w W)=>show Sl W (AvN w Av W) 1 A m.body.length (bcells m.body) from (hb.wide (Av':=AvN w Av W) (fun i hi h=>(AvN.or i h).elim id (fun e=>by omega))).same hk)
 have HTK:=hid (fun (W:World) (hk:Same w W)=>tookQ W (AvN w Av W) (AvN.lt hAv hk.size) q (h.later hk AvN.or) hn now k x hx m A cap hm (HBB.out W hk))
 unfold QPost at HTK
 have H5:=hid h5
 clear hm0 he hz hw h hAv hok _hown hm hb hsz hn hno hne
 clear hv hc h8 hi hx hcall hkl hLA hrb hrow hrg z15 hxp
 clear hcn hep hst
 go_enter Tryz.func65,Tryz.ntmps65
 go_upto_region 1 with fail
 try simp only [zero20] at hw1
 try rw [hw1]
 clear hw1
 go_upto_region 6 with (first
  | (go_at_call 101;(with_reducible refine (HVT.out _).mono ?_);rintro e1 w2 ⟨rfl,rfl⟩;rw [HV.out])
  | (refine wpList_load_row rfl _ (.tmp 3) rfl w.heap.size rfl _ q.cells.toArray (0,0) _ HM.out Tryz.underlying35 rfl (by kernel_rfl) ?_)
  | (go_at_call 16;(with_reducible refine (HFI.out _).mono ?_);rintro e1 w2 ⟨rfl,hk2⟩;have HK2:=hid hk2;have HM2:=hid (HM.out.keep hk2 (fun f=>f));have HN2:=hid (HN.out.keep hk2 (fun f=>f));have HZ2:=hid (HZ.out.keep hk2 (fun f=>f));clear hk2))
 have hrg2:=range_same HRX.out HK2.out
 have z15:w2.cell? ⟨w.heap.size,15,none⟩=some (.slice (some ⟨rb,off,none⟩) q.R.length q.lc):=(HK2.out.cell (p:=⟨w.heap.size,15,none⟩) h03 (fun f=>f)).trans HZ15.out
 refine wp_region_held_drew (S:=fun W=>W.cell? ⟨w.heap.size,15,none⟩=some (.slice (some ⟨rb,off,none⟩) q.R.length q.lc)∧W.cell? ⟨rb,off+k * 11+3,none⟩=some (.int .i64 x.s.cen)∧W.cell? ⟨rb,off+k * 11+4,none⟩=some (.int .i64 x.s.ep)∧W.cell? ⟨rb,off+k * 11+1,none⟩=some (.int .i64 x.s.st)∧W.cell? ⟨w.heap.size+1,3,none⟩=some (.int .i64 m.c)∧W.cell? ⟨w.heap.size+1,4,none⟩=some (.int .i64 m.e)) (by kernel_rfl) ⟨z15,(hrg2 3 _ rfl),(hrg2 4 _ rfl),(hrg2 1 _ rfl),(HN2.out.at_ 3),(HN2.out.at_ 4)⟩ (fun hHeld=>?_)
 refine tk 0 ?_
 refine tk 1 ?_
 refine tk 2 ?_
 refine tk 3 ?_
 refine tk 4 ?_
 refine tk 5 ?_
 refine tk 6 ?_
 refine tk 7 ?_
 refine tk 8 ?_
 refine tk 9 ?_
 refine tk 10 ?_
 refine tk 11 ?_
 refine tk 12 ?_
 refine tk 13 ?_
 refine tk 14 ?_
 refine tk 15 ?_
 refine tk 16 ?_
 refine tk 17 ?_
 refine tk 18 ?_
 refine tk 19 ?_
 refine tk 20 ?_
 refine tk 21 ?_
 refine tk 22 ?_
 refine tk 23 ?_
 refine tk 24 ?_
 refine tk 25 ?_
 refine tk 26 ?_
 refine tk 27 ?_
 refine tk 28 ?_
 refine tk 29 ?_
 refine tk 30 ?_
 refine tk 31 ?_
 refine tk 32 ?_
 refine tk 33 ?_
 refine tk 34 ?_
 refine tk 35 ?_
 refine wpAnyH_done (by kernel_rfl) ?_ _
 have HMd:=hid (HM2.out.keep (Keep.refl (fun _=>False) w2).drew (fun f=>f))
 have HNd:=hid (HN2.out.keep (Keep.refl (fun _=>False) w2).drew (fun f=>f))
 have HZd:=hid (HZ2.out.keep (Keep.refl (fun _=>False) w2).drew (fun f=>f))
 have HKd:=hid (HK2.out.drew)
 have HRGd:=hid (range_same hrg2 (Keep.refl (fun _=>False) w2).drew)
 have z15:w2.drew.cell? ⟨w.heap.size,15,none⟩=some (.slice (some ⟨rb,off,none⟩) q.R.length q.lc):=z15
 clear hrg2 HM2 HN2 HZ2 HK2
 generalize w2.drew=wd at *
 have HZL:=hid (Blk.made wd 53 #[.int .i64 0,.int .i64 0,.int .i64 0,.int .i64 0,.int .i64 0,.string ⟨#[]⟩,.int .i64 0,.slice none 0 0,.int .i64 0,.slice none 0 0,.int .i64 0])
 go_upto_region 9 with (first
  | (refine wpList_load_mid rfl _ (.tmp 74) rfl rb (off+k * 11) rfl x.cells _ HRGd.out Tryz.underlying53 rfl (by kernel_rfl) ?_)
  | (refine wpList_store_row rfl _ (.tmp 8) (.tmp 75) rfl wd.heap.size x.cells.toArray rfl rfl _ _ HZL.out (by kernel_rfl) rfl (one_toArray (qa_one x)) ?_))
 have hL3:Blk ((wd.alloc (.cells #[.int .i64 0,.int .i64 0,.int .i64 0,.int .i64 0,.int .i64 0,.string ⟨#[]⟩,.int .i64 0,.slice none 0 0,.int .i64 0,.slice none 0 0,.int .i64 0] 53)).setRow wd.heap.size x.cells.toArray) wd.heap.size 53 x.cells.toArray:=HZL.out.row _
 have hk3:Same wd ((wd.alloc (.cells #[.int .i64 0,.int .i64 0,.int .i64 0,.int .i64 0,.int .i64 0,.string ⟨#[]⟩,.int .i64 0,.slice none 0 0,.int .i64 0,.slice none 0 0,.int .i64 0] 53)).setRow wd.heap.size x.cells.toArray):=((Keep.refl (fun _=>False) wd).alloc _).trans (Keep.row _ _ _) (fun j hj e=>by have e2:j=wd.heap.size:=e;omega)
 have HLD:=hid (show w1.heap.size≤wd.heap.size from HKd.out.size)
 obtain ⟨gl,hgl⟩:∃ g,g=wd.heap.size:=⟨_,rfl⟩
 rw [←hgl] at hL3 hk3 ⊢
 have HGL:=hid (show w1.heap.size≤gl from by rw [hgl];exact HLD.out)
 have HM3:=hid (HMd.out.keep hk3 (fun f=>f))
 have HN3:=hid (HNd.out.keep hk3 (fun f=>f))
 have HZ3:=hid (HZd.out.keep hk3 (fun f=>f))
 have HW3:=hid ((HW.out.then HKd.out).then hk3)
 have HL3:=hid hL3
 have HK13:=hid (HKd.out.then hk3)
 clear hL3 hk3 hgl z15 HMd HNd HZd HZL HRGd
 generalize ((wd.alloc (.cells #[.int .i64 0,.int .i64 0,.int .i64 0,.int .i64 0,.int .i64 0,.string ⟨#[]⟩,.int .i64 0,.slice none 0 0,.int .i64 0,.slice none 0 0,.int .i64 0] 53)).setRow gl x.cells.toArray)=w3 at *
 have n0:w3.cell? ⟨w.heap.size+1,0,none⟩=some (.int .i64 5):=by rw [←H5.out];exact HN3.out.at_ 0
 clear h5
 go_wp2_with (first
  | (refine wpList_load_row rfl _ (.tmp 3) rfl w.heap.size rfl _ q.cells.toArray (0,0) _ HM3.out Tryz.underlying35 rfl (by kernel_rfl) ?_)
  | (refine wpList_load_row rfl _ (.tmp 4) rfl (w.heap.size+1) rfl _ (m.cells A cap).toArray (0,0) _ HN3.out Tryz.underlying46 rfl (by kernel_rfl) ?_)
  | (go_at_call 113;(with_reducible refine (HTK.out w3 HW3.out).mono ?_);rintro e w4 ⟨q4,rfl,hr4,hp4,hc4,hk4⟩
     have HR4:=hid hr4
     have HP4:=hid hp4
     have HC4:=hid hc4
     have HK4:=hid hk4
     have HZ4:=hid (HZ3.out.keep hk4 (fun f=>f))
     clear hr4 hp4 hc4 hk4)
  | (refine wpList_store_row rfl _ (.tmp 6) (.tmp 84) rfl (w.heap.size+1+1) q4.cells.toArray rfl rfl _ _ HZ4.out (by kernel_rfl) rfl (one_toArray (q_one q4)) ?_))
 refine bodyPost_ret (results_cell_row rfl _ _ _ _ _ _ _ rfl (HZ4.out.row _) Tryz.underlying35 rfl (by kernel_rfl)) rfl ?_
 exact HFIN.out (AvN w Av w3) q4 w4 _ HR4.out (fun j hj=>hj.elim (fun e=>.inr (by have:=HSZ.out;have:=HK13.out.size;omega)) .inl) HP4.out HC4.out (HW3.out.then HK4.out)
theorem put_self {X:XS} {k:Nat} {l:Ln} (h:X.L[k]? = some l):X.put k l=X:=by
 unfold XS.put
 have h1:X.L.set k l=X.L:=by
  apply List.ext_getElem?
  intro i
  rw [List.getElem?_set]
  split
  ·rename_i e
   subst e
   rw [if_pos (List.getElem?_eq_some_iff.1 h).1,h]
  ·rfl
 rw [h1]
set_option maxHeartbeats 8000000 in
set_option maxRecDepth 100000 in
theorem hear_back (w:World) (Av:Nat→Prop) (hAv:∀ i,Av i→i<w.heap.size) (q:QS) (h:RX w Av q) (hok:XOk q.pt) (_hown:XOwn q.pt) (hn:q.R.length≤1000) (hno:q.out.length≤800000) (hne:q.ev.length≤800000) (now:Int) (m:Nt) (A:Option Addr) (cap:Nat) (_hm:vM m=true) (hb:Sl w Av 1 A m.body.length (bcells m.body)) (hv:vN now 0=true) (hc:m.c<q.c.cen) (h8:m.k≠8) (k:Nat) (hi:idx q.R.length m.call=some k) (x:QA) (hx:q.R[k]? = some x) (hcn:x.s.cen=m.c) (hep:x.s.ep=m.e) (hst:x.s.st≠5) (h7:m.k=7):Calls Tryz.prog 65 #[.agg q.cells.toArray,.agg (m.cells A cap).toArray,.int .i64 now] w (QPost w Av q.c (q.pt.put k { x.pt with s:=backS x.s m.e })):=by
 have hm0:=((Blk.made w 35 q.cells.toArray).alloc (.cells (m.cells A cap).toArray 46)).alloc (.cells zero20.toArray 35)
 have he:=(Blk.made (w.alloc (.cells q.cells.toArray 35)) 46 (m.cells A cap).toArray).alloc (.cells zero20.toArray 35)
 have hz:=Blk.made ((w.alloc (.cells q.cells.toArray 35)).alloc (.cells (m.cells A cap).toArray 46)) 35 zero20.toArray
 have hw:Same w (((w.alloc (.cells q.cells.toArray 35)).alloc (.cells (m.cells A cap).toArray 46)).alloc (.cells zero20.toArray 35)):=(((Keep.refl _ _).alloc _).alloc _).alloc _
 rw [World.size_alloc] at he
 rw [World.size_alloc,World.size_alloc] at hz
 generalize hw1:(((w.alloc (.cells q.cells.toArray 35)).alloc (.cells (m.cells A cap).toArray 46)).alloc (.cells zero20.toArray 35))=w1 at *
 have hsz:w1.heap.size=w.heap.size+3:=by rw [←hw1];simp only [World.size_alloc]
 have HVT:=hid (fun W=>show Calls Tryz.prog 101 #[.int .i64 now] W (fun e w'=>e=.returned (.bool (vN now 0))∧W=w') from rtick_any W now)
 have HFIN:=hid (fun (A2:Nat→Prop) (qj:QS) (W:World) (Y:XS) (hr:RX W A2 qj) (hA:∀ j,j=w.heap.size+1+1∨Av j→A2 j) (hp:qj.pt=Y) (hc:qj.c=q.c) (hk:Same w W)=>show QPost w Av q.c Y (.returned (.agg qj.cells.toArray)) (W.setRow (w.heap.size+1+1) qj.cells.toArray) from by
  have hkr:Keep (fun j=>j=w.heap.size+1+1) W (W.setRow (w.heap.size+1+1) qj.cells.toArray):=Keep.row _ _ _
  exact ⟨qj,rfl,(hr.keep hkr (fun j _ e=>hA j (.inl e))).wide (fun j _ hj=>hA j (.inr hj)),hp,hc,hk.trans hkr (fun j hj e=>by have e2:j=w.heap.size+1+1:=e;omega)⟩)
 have HSAME:=hid (fun (W:World) (hk:Same w1 W)=>HFIN.out (AvN w Av w1) q W q.pt (h.later (hw.then hk) AvN.or) (fun j hj=>hj.elim (fun e=>.inr (by omega)) .inl) rfl rfl (hw.then hk))
 have HM:=hid hm0
 have HN:=hid he
 have HZ:=hid hz
 have HW:=hid hw
 have HR:=hid h
 have HAV:=hid hAv
 have HSZ:=hid hsz
 have HOK:=hid hok
 have HML:=hid (And.intro hn (And.intro hno hne))
 have h03:w.heap.size<w1.heap.size:=by omega
 have h13:w.heap.size+1<w1.heap.size:=by omega
 have c0:w1.cell? ⟨w.heap.size,0,none⟩=some (.int .i64 q.c.cen):=hm0.at_ 0
 have n0:w1.cell? ⟨w.heap.size+1,0,none⟩=some (.int .i64 m.k):=he.at_ 0
 have n1:w1.cell? ⟨w.heap.size+1,1,none⟩=some (.int .i64 m.call):=he.at_ 1
 have n3:w1.cell? ⟨w.heap.size+1,3,none⟩=some (.int .i64 m.c):=he.at_ 3
 have HV:=hid hv
 have d1:decide (q.c.cen≤m.c)=false:=decide_eq_false (by omega)
 have d8:(m.k == 8)=false:=by simpa using h8
 have HFI:=hid (fun W=>show Calls Tryz.prog 16 #[.agg q.cells.toArray,.int .i64 m.call] W (fun e w'=>e=.returned (.int .i64 (k:Int))∧Same W w') from by
  have:=findQ W q hn m.call
  unfold findI at this
  rw [hi] at this
  exact this)
 obtain ⟨hcall,hkl⟩:=idx_some hi
 have HKL:=hid hkl
 obtain ⟨rb,off,hLA,hrb,_,hrow⟩:=(h.L.same hw).at_ (by omega)
 have hrg:=range_row hrow hx
 have HRX:=hid hrg
 have z15:w1.cell? ⟨w.heap.size,15,none⟩=some (.slice q.LA q.R.length q.lc):=hm0.at_ 15
 rw [hLA] at z15
 have HZ15:=hid z15
 have hkk:(k:Int)<(q.R.length:Int):=by omega
 have hk0:(0:Int)≤(k:Int):=Int.natCast_nonneg _
 have dk:decide ((k:Int)<0)=false:=decide_eq_false (by omega)
 have hxp:q.pt.L[k]? = some x.pt:=by show (q.R.map QA.pt)[k]? = _;rw [List.getElem?_map,hx];rfl
 have HVL:=hid (hok.ln k x.pt hxp).1
 have HXX:=hid hx
 have HRL:=hid (fun (W W2:World) (hk:Same w W)=>show RX W (AvN w Av W2) q from h.later hk AvN.or)
 have e1:(x.s.cen != m.c)=false:=by simpa using hcn
 have e2:(x.s.ep != m.e)=false:=by simpa using hep
 have e3:(x.s.st == 5)=false:=by simpa using hst
 have HBB:=hid (fun (W:World) (hk:Same w W)=>show Sl W (AvN w Av W) 1 A m.body.length (bcells m.body) from (hb.wide (Av':=AvN w Av W) (fun i hi h=>(AvN.or i h).elim id (fun e=>by omega))).same hk)
 have HCB:=hid (fun (W:World) (hk:Same w W)=>rback_any W (AvN w Av W) x.A x.c x.s ((h.lin x (List.mem_of_getElem? hx)).later hk AvN.or).an m.e)
 unfold RefPost at HCB
 have HSF:=hid (fun (e0:¬backE x.s m.e=0)=>show q.pt.put k { x.pt with s:=backS x.s m.e }=q.pt from by
  have h1:backS x.s m.e=x.s:=by unfold backS;rw [if_neg e0]
  rw [h1]
  exact put_self hxp)
 obtain ⟨be,hbe⟩:∃ be,be=backE x.s m.e:=⟨_,rfl⟩
 obtain ⟨s2,hs2⟩:∃ s2,s2=backS x.s m.e:=⟨_,rfl⟩
 rw [←hbe,←hs2] at HCB HSF
 rw [←hs2]
 clear hbe hs2
 have H7:=hid h7
 clear hm0 he hz hw h hAv hok _hown _hm hb hsz hn hno hne
 clear hv hc h8 hi hx hcall hkl hLA hrb hrow hrg z15 hxp
 clear hcn hep hst
 go_enter Tryz.func65,Tryz.ntmps65
 go_upto_region 1 with fail
 try simp only [zero20] at hw1
 try rw [hw1]
 clear hw1
 go_upto_region 6 with (first
  | (go_at_call 101;(with_reducible refine (HVT.out _).mono ?_);rintro e1 w2 ⟨rfl,rfl⟩;rw [HV.out])
  | (refine wpList_load_row rfl _ (.tmp 3) rfl w.heap.size rfl _ q.cells.toArray (0,0) _ HM.out Tryz.underlying35 rfl (by kernel_rfl) ?_)
  | (go_at_call 16;(with_reducible refine (HFI.out _).mono ?_);rintro e1 w2 ⟨rfl,hk2⟩;have HK2:=hid hk2;have HM2:=hid (HM.out.keep hk2 (fun f=>f));have HN2:=hid (HN.out.keep hk2 (fun f=>f));have HZ2:=hid (HZ.out.keep hk2 (fun f=>f));clear hk2))
 have hrg2:=range_same HRX.out HK2.out
 have z15:w2.cell? ⟨w.heap.size,15,none⟩=some (.slice (some ⟨rb,off,none⟩) q.R.length q.lc):=(HK2.out.cell (p:=⟨w.heap.size,15,none⟩) h03 (fun f=>f)).trans HZ15.out
 refine wp_region_held_drew (S:=fun W=>W.cell? ⟨w.heap.size,15,none⟩=some (.slice (some ⟨rb,off,none⟩) q.R.length q.lc)∧W.cell? ⟨rb,off+k * 11+3,none⟩=some (.int .i64 x.s.cen)∧W.cell? ⟨rb,off+k * 11+4,none⟩=some (.int .i64 x.s.ep)∧W.cell? ⟨rb,off+k * 11+1,none⟩=some (.int .i64 x.s.st)∧W.cell? ⟨w.heap.size+1,3,none⟩=some (.int .i64 m.c)∧W.cell? ⟨w.heap.size+1,4,none⟩=some (.int .i64 m.e)) (by kernel_rfl) ⟨z15,(hrg2 3 _ rfl),(hrg2 4 _ rfl),(hrg2 1 _ rfl),(HN2.out.at_ 3),(HN2.out.at_ 4)⟩ (fun hHeld=>?_)
 refine tk 0 ?_
 refine tk 1 ?_
 refine tk 2 ?_
 refine tk 3 ?_
 refine tk 4 ?_
 refine tk 5 ?_
 refine tk 6 ?_
 refine tk 7 ?_
 refine tk 8 ?_
 refine tk 9 ?_
 refine tk 10 ?_
 refine tk 11 ?_
 refine tk 12 ?_
 refine tk 13 ?_
 refine tk 14 ?_
 refine tk 15 ?_
 refine tk 16 ?_
 refine tk 17 ?_
 refine tk 18 ?_
 refine tk 19 ?_
 refine tk 20 ?_
 refine tk 21 ?_
 refine tk 22 ?_
 refine tk 23 ?_
 refine tk 24 ?_
 refine tk 25 ?_
 refine tk 26 ?_
 refine tk 27 ?_
 refine tk 28 ?_
 refine tk 29 ?_
 refine tk 30 ?_
 refine tk 31 ?_
 refine tk 32 ?_
 refine tk 33 ?_
 refine tk 34 ?_
 refine tk 35 ?_
 refine wpAnyH_done (by kernel_rfl) ?_ _
 have HMd:=hid (HM2.out.keep (Keep.refl (fun _=>False) w2).drew (fun f=>f))
 have HNd:=hid (HN2.out.keep (Keep.refl (fun _=>False) w2).drew (fun f=>f))
 have HZd:=hid (HZ2.out.keep (Keep.refl (fun _=>False) w2).drew (fun f=>f))
 have HKd:=hid (HK2.out.drew)
 have HRGd:=hid (range_same hrg2 (Keep.refl (fun _=>False) w2).drew)
 have z15:w2.drew.cell? ⟨w.heap.size,15,none⟩=some (.slice (some ⟨rb,off,none⟩) q.R.length q.lc):=z15
 clear hrg2 HM2 HN2 HZ2 HK2
 generalize w2.drew=wd at *
 have HZL:=hid (Blk.made wd 53 #[.int .i64 0,.int .i64 0,.int .i64 0,.int .i64 0,.int .i64 0,.string ⟨#[]⟩,.int .i64 0,.slice none 0 0,.int .i64 0,.slice none 0 0,.int .i64 0])
 go_upto_region 9 with (first
  | (refine wpList_load_mid rfl _ (.tmp 74) rfl rb (off+k * 11) rfl x.cells _ HRGd.out Tryz.underlying53 rfl (by kernel_rfl) ?_)
  | (refine wpList_store_row rfl _ (.tmp 8) (.tmp 75) rfl wd.heap.size x.cells.toArray rfl rfl _ _ HZL.out (by kernel_rfl) rfl (one_toArray (qa_one x)) ?_))
 have hL3:Blk ((wd.alloc (.cells #[.int .i64 0,.int .i64 0,.int .i64 0,.int .i64 0,.int .i64 0,.string ⟨#[]⟩,.int .i64 0,.slice none 0 0,.int .i64 0,.slice none 0 0,.int .i64 0] 53)).setRow wd.heap.size x.cells.toArray) wd.heap.size 53 x.cells.toArray:=HZL.out.row _
 have hk3:Same wd ((wd.alloc (.cells #[.int .i64 0,.int .i64 0,.int .i64 0,.int .i64 0,.int .i64 0,.string ⟨#[]⟩,.int .i64 0,.slice none 0 0,.int .i64 0,.slice none 0 0,.int .i64 0] 53)).setRow wd.heap.size x.cells.toArray):=((Keep.refl (fun _=>False) wd).alloc _).trans (Keep.row _ _ _) (fun j hj e=>by have e2:j=wd.heap.size:=e;omega)
 have HLD:=hid (show w1.heap.size≤wd.heap.size from HKd.out.size)
 obtain ⟨gl,hgl⟩:∃ g,g=wd.heap.size:=⟨_,rfl⟩
 rw [←hgl] at hL3 hk3 ⊢
 have HGL:=hid (show w1.heap.size≤gl from by rw [hgl];exact HLD.out)
 have HM3:=hid (HMd.out.keep hk3 (fun f=>f))
 have HN3:=hid (HNd.out.keep hk3 (fun f=>f))
 have HZ3:=hid (HZd.out.keep hk3 (fun f=>f))
 have HW3:=hid ((HW.out.then HKd.out).then hk3)
 have HL3:=hid hL3
 have HK13:=hid (HKd.out.then hk3)
 clear hL3 hk3 hgl z15 HMd HNd HZd HZL HRGd
 generalize ((wd.alloc (.cells #[.int .i64 0,.int .i64 0,.int .i64 0,.int .i64 0,.int .i64 0,.string ⟨#[]⟩,.int .i64 0,.slice none 0 0,.int .i64 0,.slice none 0 0,.int .i64 0] 53)).setRow gl x.cells.toArray)=w3 at *
 have n0:w3.cell? ⟨w.heap.size+1,0,none⟩=some (.int .i64 7):=by rw [←H7.out];exact HN3.out.at_ 0
 have n4:w3.cell? ⟨w.heap.size+1,4,none⟩=some (.int .i64 m.e):=HN3.out.at_ 4
 have HC3:=hid (HCB.out w3 HW3.out)
 have HB8:=hid (fun W=>Blk.made W 50 #[.int .i64 0,.int .i64 0,.int .i64 0,.int .i64 0,.int .i64 0,.string ⟨#[]⟩,.int .i64 0,.slice none 0 0])
 clear h7
 go_upto_region 14 with (first
  | (refine wpList_load_mid rfl _ (.tmp 88) rfl gl 0 rfl (x.s.cells x.A x.c) _ HL3.out.lineRange Tryz.underlying50 rfl (by kernel_rfl) ?_)
  | (go_at_call 114;(with_reducible refine HC3.out.mono ?_);rintro e9 w4 ⟨A4,c4,rfl,hs4,hk4⟩;have HS4:=hid hs4;have HK4:=hid hk4;clear hs4 hk4)
  | (refine wpList_store_row rfl _ (.tmp 9) (.tmp 93) rfl w4.heap.size (s2.cells A4 c4).toArray rfl rfl _ _ (HB8.out w4) (by kernel_rfl) rfl (one_toArray (cl_one _ _ _)) ?_))
 have hS5:Blk ((w4.alloc (.cells #[.int .i64 0,.int .i64 0,.int .i64 0,.int .i64 0,.int .i64 0,.string ⟨#[]⟩,.int .i64 0,.slice none 0 0] 50)).setRow w4.heap.size (s2.cells A4 c4).toArray) w4.heap.size 50 (s2.cells A4 c4).toArray:=(HB8.out w4).row _
 have hk5:Same w4 ((w4.alloc (.cells #[.int .i64 0,.int .i64 0,.int .i64 0,.int .i64 0,.int .i64 0,.string ⟨#[]⟩,.int .i64 0,.slice none 0 0] 50)).setRow w4.heap.size (s2.cells A4 c4).toArray):=((Keep.refl (fun _=>False) w4).alloc _).trans (Keep.row _ _ _) (fun j hj e=>by have e2:j=w4.heap.size:=e;omega)
 obtain ⟨gn,hgn⟩:∃ g,g=w4.heap.size:=⟨_,rfl⟩
 have h43:=HK4.out.size
 have hl3:=HL3.out.lt
 rw [←hgn] at hS5 hk5 ⊢
 have HGN:=hid (show gl<gn from by omega)
 have hk35:=HK4.out.then hk5
 have HM5:=hid (HM3.out.keep hk35 (fun f=>f))
 have HZ5:=hid (HZ3.out.keep hk35 (fun f=>f))
 have HW5:=hid (HW3.out.then hk35)
 have HK15:=hid (HK13.out.then hk35)
 have HL5:=hid (HL3.out.keep hk35 (fun f=>f))
 have HA5:=hid (HS4.out.same hk5)
 have HS5:=hid hS5
 have HZS:=hid hk35.size
 clear hS5 hk5 hgn hk35 h43 hl3 n0 n4
 generalize ((w4.alloc (.cells #[.int .i64 0,.int .i64 0,.int .i64 0,.int .i64 0,.int .i64 0,.string ⟨#[]⟩,.int .i64 0,.slice none 0 0] 50)).setRow gn (s2.cells A4 c4).toArray)=w5 at *
 by_cases b0:be=0
 ·have db:(be == 0)=true:=by simp [b0]
  clear b0
  have HTH:Hid (w5.there gl 0 (s2.cells A4 c4).toArray.size):=hid HL5.out.lineThere
  go_upto_region 16 with (first
   | (refine wpList_load_row rfl _ (.tmp 9) rfl gn rfl _ (s2.cells A4 c4).toArray (0,0) _ HS5.out Tryz.underlying50 rfl (by kernel_rfl) ?_)
   | (refine wpList_store_mid rfl _ (.tmp 98) (.tmp 97) rfl gl 0 (s2.cells A4 c4).toArray rfl rfl HTH.out (by kernel_rfl) (one_toArray (cl_one _ _ _)) ?_))
  have hL6:Blk (w5.setCells gl 0 (s2.cells A4 c4)) gl 53 ({ x with s:=s2,A:=A4,c:=c4 }:QA).cells.toArray:=HL5.out.line s2 A4 c4
  have hkc:Keep (fun j=>j=gl) w5 (w5.setCells gl 0 (s2.cells A4 c4)):=Keep.cells gl _ _ _
  have hgl:=HGL.out
  have HM6:=hid (HM5.out.keep hkc (fun e=>by have e2:w.heap.size=gl:=e;omega))
  have HZ6:=hid (HZ5.out.keep hkc (fun e=>by have e2:w.heap.size+1+1=gl:=e;have:=HSZ.out;omega))
  have HWE:=hid (HW5.out.trans hkc (fun j hj e=>by have e2:j=gl:=e;omega))
  have HAN:=hid (show AvN w Av w3 gl from .inr ⟨by omega,HL3.out.lt⟩)
  have HA6:=hid (HA5.out.keep hkc (fun j _ e=>by have e2:j=gl:=e;rw [e2];exact HAN.out))
  obtain ⟨x2,hx2⟩:∃ x2:QA,x2={ x with s:=s2,A:=A4,c:=c4 }:=⟨_,rfl⟩
  rw [←hx2] at hL6
  have HX2:=hid hx2
  have HL6:=hid hL6
  have HSA:=hid (Nat.le_trans HZS.out hkc.size)
  have HWA:=hid HW3.out
  clear hL6 hkc hx2 HTH
  generalize (w5.setCells gl 0 (s2.cells A4 c4))=w6 at *
  have HQ6:=hid (show QAt w6 (AvN w Av w3) x2 from by
   rw [HX2.out]
   exact ⟨HA6.out,((HRL.out w6 w3 HWE.out).lin x (List.mem_of_getElem? HXX.out)).src⟩)
  have HXP:=hid (show x2.pt=({ x.pt with s:=s2 }:Ln) from by rw [HX2.out];rfl)
  have HSE:=hid (set_any w6 (AvN w Av w3) (fun j hj=>Nat.lt_of_lt_of_le (AvN.lt HAV.out HWA.out.size j hj) HSA.out) q (HRL.out w6 w3 HWE.out) (HML.out.1) k HKL.out x2 HQ6.out)
  unfold QPost at HSE
  go_wp2_with (first
   | (refine wpList_load_row rfl _ (.tmp 3) rfl w.heap.size rfl _ q.cells.toArray (0,0) _ HM6.out Tryz.underlying35 rfl (by kernel_rfl) ?_)
   | (refine wpList_load_row rfl _ (.tmp 8) rfl gl rfl _ x2.cells.toArray (0,0) _ HL6.out Tryz.underlying53 rfl (by kernel_rfl) ?_)
   | (go_at_call 108;(with_reducible refine HSE.out.mono ?_);rintro e w7 ⟨q7,rfl,hr7,hp7,hc7,hk7⟩
      have HR7:=hid hr7
      have HP7:=hid hp7
      have HC7:=hid hc7
      have HK7:=hid hk7
      have HZ7:=hid (HZ6.out.keep hk7 (fun f=>f))
      clear hr7 hp7 hc7 hk7)
   | (refine wpList_store_row rfl _ (.tmp 6) (.tmp 102) rfl (w.heap.size+1+1) q7.cells.toArray rfl rfl _ _ HZ7.out (by kernel_rfl) rfl (one_toArray (q_one q7)) ?_))
  refine bodyPost_ret (results_cell_row rfl _ _ _ _ _ _ _ rfl (HZ7.out.row _) Tryz.underlying35 rfl (by kernel_rfl)) rfl ?_
  exact HFIN.out (AvN w Av w3) q7 w7 _ HR7.out (fun j hj=>hj.elim (fun e=>.inr (by have:=HSZ.out;have:=HK13.out.size;omega)) .inl) (by rw [HP7.out,HXP.out]) HC7.out (HWE.out.then HK7.out)
 ·have db:(be == 0)=false:=by simpa using b0
  have HSFF:=hid (HSF.out b0)
  clear b0
  go_wp2_with (first
   | (refine wpList_load_row rfl _ (.tmp 3) rfl w.heap.size rfl _ q.cells.toArray (0,0) _ HM5.out Tryz.underlying35 rfl (by kernel_rfl) ?_)
   | (refine wpList_store_row rfl _ (.tmp 6) (.tmp 127) rfl (w.heap.size+1+1) q.cells.toArray rfl rfl _ _ HZ5.out (by kernel_rfl) rfl (one_toArray (q_one q)) ?_))
  refine bodyPost_ret (results_cell_row rfl _ _ _ _ _ _ _ rfl (HZ5.out.row _) Tryz.underlying35 rfl (by kernel_rfl)) rfl ?_
  rw [HSFF.out]
  exact HSAME.out _ HK15.out
end Go.Proofs.YtbjddfiledoaoaaGreat

import Derived.Test.YtbjddfiledoaoaaGreatYK
namespace Go.Proofs.YtbjddfiledoaoaaGreat
open Go.RowKit
set_option maxHeartbeats 8000000 in
set_option maxRecDepth 100000 in
theorem hear_off (w:World) (Av:Nat→Prop) (hAv:∀ i,Av i→i<w.heap.size) (q:QS) (h:RX w Av q) (hok:XOk q.pt) (_hown:XOwn q.pt) (hn:q.R.length≤1000) (hno:q.out.length≤800000) (hne:q.ev.length≤800000) (now:Int) (m:Nt) (A:Option Addr) (cap:Nat) (_hm:vM m=true) (_hb:Sl w Av 1 A m.body.length (bcells m.body)) (hv:vN now 0=false):Calls Tryz.prog 65 #[.agg q.cells.toArray,.agg (m.cells A cap).toArray,.int .i64 now] w (QPost w Av q.c (q.pt)):=by
 have hm0:=((Blk.made w 35 q.cells.toArray).alloc (.cells (m.cells A cap).toArray 46)).alloc (.cells zero20.toArray 35)
 have he:=(Blk.made (w.alloc (.cells q.cells.toArray 35)) 46 (m.cells A cap).toArray).alloc (.cells zero20.toArray 35)
 have hz:=Blk.made ((w.alloc (.cells q.cells.toArray 35)).alloc (.cells (m.cells A cap).toArray 46)) 35 zero20.toArray
 have hw:Same w (((w.alloc (.cells q.cells.toArray 35)).alloc (.cells (m.cells A cap).toArray 46)).alloc (.cells zero20.toArray 35)):=(((Keep.refl _ _).alloc _).alloc _).alloc _
 rw [World.size_alloc] at he
 rw [World.size_alloc,World.size_alloc] at hz
 generalize hw1:(((w.alloc (.cells q.cells.toArray 35)).alloc (.cells (m.cells A cap).toArray 46)).alloc (.cells zero20.toArray 35))=w1 at *
 have hsz:w1.heap.size=w.heap.size+3:=by rw [←hw1];simp only [World.size_alloc]
 have HVT:=hid (fun W=>show Calls Tryz.prog 101 #[.int .i64 now] W (fun e w'=>e=.returned (.bool (vN now 0))∧W=w') from rtick_any W now)
 have HFIN:=hid (fun (A2:Nat→Prop) (qj:QS) (W:World) (Y:XS) (hr:RX W A2 qj) (hA:∀ j,j=w.heap.size+1+1∨Av j→A2 j) (hp:qj.pt=Y) (hc:qj.c=q.c) (hk:Same w W)=>show QPost w Av q.c Y (.returned (.agg qj.cells.toArray)) (W.setRow (w.heap.size+1+1) qj.cells.toArray) from by
  have hkr:Keep (fun j=>j=w.heap.size+1+1) W (W.setRow (w.heap.size+1+1) qj.cells.toArray):=Keep.row _ _ _
  exact ⟨qj,rfl,(hr.keep hkr (fun j _ e=>hA j (.inl e))).wide (fun j _ hj=>hA j (.inr hj)),hp,hc,hk.trans hkr (fun j hj e=>by have e2:j=w.heap.size+1+1:=e;omega)⟩)
 have HSAME:=hid (fun (W:World) (hk:Same w1 W)=>HFIN.out (AvN w Av w1) q W q.pt (h.later (hw.then hk) AvN.or) (fun j hj=>hj.elim (fun e=>.inr (by omega)) .inl) rfl rfl (hw.then hk))
 have HM:=hid hm0
 have HN:=hid he
 have HZ:=hid hz
 have HW:=hid hw
 have HR:=hid h
 have HAV:=hid hAv
 have HSZ:=hid hsz
 have HOK:=hid hok
 have HML:=hid (And.intro hn (And.intro hno hne))
 have h03:w.heap.size<w1.heap.size:=by omega
 have h13:w.heap.size+1<w1.heap.size:=by omega
 have c0:w1.cell? ⟨w.heap.size,0,none⟩=some (.int .i64 q.c.cen):=hm0.at_ 0
 have n0:w1.cell? ⟨w.heap.size+1,0,none⟩=some (.int .i64 m.k):=he.at_ 0
 have n1:w1.cell? ⟨w.heap.size+1,1,none⟩=some (.int .i64 m.call):=he.at_ 1
 have n3:w1.cell? ⟨w.heap.size+1,3,none⟩=some (.int .i64 m.c):=he.at_ 3
 have HV:=hid hv
 clear hm0 he hz hw h hAv hok _hown _hm _hb hsz hn hno hne
 clear hv c0 n0 n1 n3
 go_enter Tryz.func65,Tryz.ntmps65
 go_upto_region 1 with fail
 try simp only [zero20] at hw1
 try rw [hw1]
 clear hw1
 go_wp2_with (first
  | (go_at_call 101;(with_reducible refine (HVT.out _).mono ?_);rintro e1 w2 ⟨rfl,rfl⟩;rw [HV.out])
  | (refine wpList_load_row rfl _ (.tmp 3) rfl w.heap.size rfl _ q.cells.toArray (0,0) _ HM.out Tryz.underlying35 rfl (by kernel_rfl) ?_)
  | (refine wpList_store_row rfl _ (.tmp 6) (.tmp 22) rfl (w.heap.size+1+1) q.cells.toArray rfl rfl _ _ HZ.out (by kernel_rfl) rfl (one_toArray (q_one q)) ?_))
 refine bodyPost_ret (results_cell_row rfl _ _ _ _ _ _ _ rfl (HZ.out.row _) Tryz.underlying35 rfl (by kernel_rfl)) rfl ?_
 exact HSAME.out _ (Keep.refl _ _)
set_option maxHeartbeats 8000000 in
set_option maxRecDepth 100000 in
theorem hear_far (w:World) (Av:Nat→Prop) (hAv:∀ i,Av i→i<w.heap.size) (q:QS) (h:RX w Av q) (hok:XOk q.pt) (_hown:XOwn q.pt) (hn:q.R.length≤1000) (hno:q.out.length≤800000) (hne:q.ev.length≤800000) (now:Int) (m:Nt) (A:Option Addr) (cap:Nat) (_hm:vM m=true) (_hb:Sl w Av 1 A m.body.length (bcells m.body)) (hv:vN now 0=true) (hc:q.c.cen≤m.c):Calls Tryz.prog 65 #[.agg q.cells.toArray,.agg (m.cells A cap).toArray,.int .i64 now] w (QPost w Av q.c (q.pt)):=by
 have hm0:=((Blk.made w 35 q.cells.toArray).alloc (.cells (m.cells A cap).toArray 46)).alloc (.cells zero20.toArray 35)
 have he:=(Blk.made (w.alloc (.cells q.cells.toArray 35)) 46 (m.cells A cap).toArray).alloc (.cells zero20.toArray 35)
 have hz:=Blk.made ((w.alloc (.cells q.cells.toArray 35)).alloc (.cells (m.cells A cap).toArray 46)) 35 zero20.toArray
 have hw:Same w (((w.alloc (.cells q.cells.toArray 35)).alloc (.cells (m.cells A cap).toArray 46)).alloc (.cells zero20.toArray 35)):=(((Keep.refl _ _).alloc _).alloc _).alloc _
 rw [World.size_alloc] at he
 rw [World.size_alloc,World.size_alloc] at hz
 generalize hw1:(((w.alloc (.cells q.cells.toArray 35)).alloc (.cells (m.cells A cap).toArray 46)).alloc (.cells zero20.toArray 35))=w1 at *
 have hsz:w1.heap.size=w.heap.size+3:=by rw [←hw1];simp only [World.size_alloc]
 have HVT:=hid (fun W=>show Calls Tryz.prog 101 #[.int .i64 now] W (fun e w'=>e=.returned (.bool (vN now 0))∧W=w') from rtick_any W now)
 have HFIN:=hid (fun (A2:Nat→Prop) (qj:QS) (W:World) (Y:XS) (hr:RX W A2 qj) (hA:∀ j,j=w.heap.size+1+1∨Av j→A2 j) (hp:qj.pt=Y) (hc:qj.c=q.c) (hk:Same w W)=>show QPost w Av q.c Y (.returned (.agg qj.cells.toArray)) (W.setRow (w.heap.size+1+1) qj.cells.toArray) from by
  have hkr:Keep (fun j=>j=w.heap.size+1+1) W (W.setRow (w.heap.size+1+1) qj.cells.toArray):=Keep.row _ _ _
  exact ⟨qj,rfl,(hr.keep hkr (fun j _ e=>hA j (.inl e))).wide (fun j _ hj=>hA j (.inr hj)),hp,hc,hk.trans hkr (fun j hj e=>by have e2:j=w.heap.size+1+1:=e;omega)⟩)
 have HSAME:=hid (fun (W:World) (hk:Same w1 W)=>HFIN.out (AvN w Av w1) q W q.pt (h.later (hw.then hk) AvN.or) (fun j hj=>hj.elim (fun e=>.inr (by omega)) .inl) rfl rfl (hw.then hk))
 have HM:=hid hm0
 have HN:=hid he
 have HZ:=hid hz
 have HW:=hid hw
 have HR:=hid h
 have HAV:=hid hAv
 have HSZ:=hid hsz
 have HOK:=hid hok
 have HML:=hid (And.intro hn (And.intro hno hne))
 have h03:w.heap.size<w1.heap.size:=by omega
 have h13:w.heap.size+1<w1.heap.size:=by omega
 have c0:w1.cell? ⟨w.heap.size,0,none⟩=some (.int .i64 q.c.cen):=hm0.at_ 0
 have n0:w1.cell? ⟨w.heap.size+1,0,none⟩=some (.int .i64 m.k):=he.at_ 0
 have n1:w1.cell? ⟨w.heap.size+1,1,none⟩=some (.int .i64 m.call):=he.at_ 1
 have n3:w1.cell? ⟨w.heap.size+1,3,none⟩=some (.int .i64 m.c):=he.at_ 3
 have HV:=hid hv
 have d1:decide (q.c.cen≤m.c)=true:=decide_eq_true hc
 clear hm0 he hz hw h hAv hok _hown _hm _hb hsz hn hno hne
 clear hv hc n0 n1
 go_enter Tryz.func65,Tryz.ntmps65
 go_upto_region 1 with fail
 try simp only [zero20] at hw1
 try rw [hw1]
 clear hw1
 go_wp2_with (first
  | (go_at_call 101;(with_reducible refine (HVT.out _).mono ?_);rintro e1 w2 ⟨rfl,rfl⟩;rw [HV.out])
  | (refine wpList_load_row rfl _ (.tmp 3) rfl w.heap.size rfl _ q.cells.toArray (0,0) _ HM.out Tryz.underlying35 rfl (by kernel_rfl) ?_)
  | (refine wpList_store_row rfl _ (.tmp 6) (.tmp 22) rfl (w.heap.size+1+1) q.cells.toArray rfl rfl _ _ HZ.out (by kernel_rfl) rfl (one_toArray (q_one q)) ?_))
 refine bodyPost_ret (results_cell_row rfl _ _ _ _ _ _ _ rfl (HZ.out.row _) Tryz.underlying35 rfl (by kernel_rfl)) rfl ?_
 exact HSAME.out _ (Keep.refl _ _)
set_option maxHeartbeats 8000000 in
set_option maxRecDepth 100000 in
theorem hear_claim (w:World) (Av:Nat→Prop) (hAv:∀ i,Av i→i<w.heap.size) (q:QS) (h:RX w Av q) (hok:XOk q.pt) (hown:XOwn q.pt) (hn:q.R.length≤1000) (hno:q.out.length≤800000) (hne:q.ev.length≤800000) (now:Int) (m:Nt) (A:Option Addr) (cap:Nat) (hm:vM m=true) (_hb:Sl w Av 1 A m.body.length (bcells m.body)) (hv:vN now 0=true) (hc:m.c<q.c.cen) (h8:m.k=8):Calls Tryz.prog 65 #[.agg q.cells.toArray,.agg (m.cells A cap).toArray,.int .i64 now] w (QPost w Av q.c (q.pt.claim m now)):=by
 have hm0:=((Blk.made w 35 q.cells.toArray).alloc (.cells (m.cells A cap).toArray 46)).alloc (.cells zero20.toArray 35)
 have he:=(Blk.made (w.alloc (.cells q.cells.toArray 35)) 46 (m.cells A cap).toArray).alloc (.cells zero20.toArray 35)
 have hz:=Blk.made ((w.alloc (.cells q.cells.toArray 35)).alloc (.cells (m.cells A cap).toArray 46)) 35 zero20.toArray
 have hw:Same w (((w.alloc (.cells q.cells.toArray 35)).alloc (.cells (m.cells A cap).toArray 46)).alloc (.cells zero20.toArray 35)):=(((Keep.refl _ _).alloc _).alloc _).alloc _
 rw [World.size_alloc] at he
 rw [World.size_alloc,World.size_alloc] at hz
 generalize hw1:(((w.alloc (.cells q.cells.toArray 35)).alloc (.cells (m.cells A cap).toArray 46)).alloc (.cells zero20.toArray 35))=w1 at *
 have hsz:w1.heap.size=w.heap.size+3:=by rw [←hw1];simp only [World.size_alloc]
 have HVT:=hid (fun W=>show Calls Tryz.prog 101 #[.int .i64 now] W (fun e w'=>e=.returned (.bool (vN now 0))∧W=w') from rtick_any W now)
 have HFIN:=hid (fun (A2:Nat→Prop) (qj:QS) (W:World) (Y:XS) (hr:RX W A2 qj) (hA:∀ j,j=w.heap.size+1+1∨Av j→A2 j) (hp:qj.pt=Y) (hc:qj.c=q.c) (hk:Same w W)=>show QPost w Av q.c Y (.returned (.agg qj.cells.toArray)) (W.setRow (w.heap.size+1+1) qj.cells.toArray) from by
  have hkr:Keep (fun j=>j=w.heap.size+1+1) W (W.setRow (w.heap.size+1+1) qj.cells.toArray):=Keep.row _ _ _
  exact ⟨qj,rfl,(hr.keep hkr (fun j _ e=>hA j (.inl e))).wide (fun j _ hj=>hA j (.inr hj)),hp,hc,hk.trans hkr (fun j hj e=>by have e2:j=w.heap.size+1+1:=e;omega)⟩)
 have HSAME:=hid (fun (W:World) (hk:Same w1 W)=>HFIN.out (AvN w Av w1) q W q.pt (h.later (hw.then hk) AvN.or) (fun j hj=>hj.elim (fun e=>.inr (by omega)) .inl) rfl rfl (hw.then hk))
 have HM:=hid hm0
 have HN:=hid he
 have HZ:=hid hz
 have HW:=hid hw
 have HR:=hid h
 have HAV:=hid hAv
 have HSZ:=hid hsz
 have HOK:=hid hok
 have HML:=hid (And.intro hn (And.intro hno hne))
 have h03:w.heap.size<w1.heap.size:=by omega
 have h13:w.heap.size+1<w1.heap.size:=by omega
 have c0:w1.cell? ⟨w.heap.size,0,none⟩=some (.int .i64 q.c.cen):=hm0.at_ 0
 have n0:w1.cell? ⟨w.heap.size+1,0,none⟩=some (.int .i64 m.k):=he.at_ 0
 have n1:w1.cell? ⟨w.heap.size+1,1,none⟩=some (.int .i64 m.call):=he.at_ 1
 have n3:w1.cell? ⟨w.heap.size+1,3,none⟩=some (.int .i64 m.c):=he.at_ 3
 have HV:=hid hv
 have d1:decide (q.c.cen≤m.c)=false:=decide_eq_false (by omega)
 have HCL:=hid (claimQ w1 (AvN w Av w1) (AvN.lt hAv hw.size) q (h.later hw AvN.or) hok hown hn hno hne now hv m A cap hm hc)
 unfold QPost at HCL
 rw [h8] at n0
 clear hm0 he hz hw h hAv hok hown hm _hb hsz hn hno hne
 clear hv hc n1
 go_enter Tryz.func65,Tryz.ntmps65
 go_upto_region 1 with fail
 try simp only [zero20] at hw1
 try rw [hw1]
 clear hw1
 go_wp2_with (first
  | (go_at_call 101;(with_reducible refine (HVT.out _).mono ?_);rintro e1 w2 ⟨rfl,rfl⟩;rw [HV.out])
  | (refine wpList_load_row rfl _ (.tmp 3) rfl w.heap.size rfl _ q.cells.toArray (0,0) _ HM.out Tryz.underlying35 rfl (by kernel_rfl) ?_)
  | (refine wpList_load_row rfl _ (.tmp 4) rfl (w.heap.size+1) rfl _ (m.cells A cap).toArray (0,0) _ HN.out Tryz.underlying46 rfl (by kernel_rfl) ?_)
  | (go_at_call 112;(with_reducible refine HCL.out.mono ?_);rintro e w3 ⟨q3,rfl,hr3,hp3,hc3,hk3⟩
     have HR3:=hid hr3
     have HP3:=hid hp3
     have HC3:=hid hc3
     have HK3:=hid hk3
     have HZ3:=hid (HZ.out.keep hk3 (fun f=>f))
     clear hr3 hp3 hc3 hk3)
  | (refine wpList_store_row rfl _ (.tmp 6) (.tmp 29) rfl (w.heap.size+1+1) q3.cells.toArray rfl rfl _ _ HZ3.out (by kernel_rfl) rfl (one_toArray (q_one q3)) ?_))
 refine bodyPost_ret (results_cell_row rfl _ _ _ _ _ _ _ rfl (HZ3.out.row _) Tryz.underlying35 rfl (by kernel_rfl)) rfl ?_
 exact HFIN.out (AvN w Av w1) q3 w3 _ HR3.out (fun j hj=>hj.elim (fun e=>.inr (by have:=HSZ.out;omega)) .inl) HP3.out HC3.out (HW.out.then HK3.out)
set_option maxHeartbeats 8000000 in
set_option maxRecDepth 100000 in
theorem hear_none (w:World) (Av:Nat→Prop) (hAv:∀ i,Av i→i<w.heap.size) (q:QS) (h:RX w Av q) (hok:XOk q.pt) (_hown:XOwn q.pt) (hn:q.R.length≤1000) (hno:q.out.length≤800000) (hne:q.ev.length≤800000) (now:Int) (m:Nt) (A:Option Addr) (cap:Nat) (_hm:vM m=true) (_hb:Sl w Av 1 A m.body.length (bcells m.body)) (hv:vN now 0=true) (hc:m.c<q.c.cen) (h8:m.k≠8) (hi:idx q.R.length m.call=none):Calls Tryz.prog 65 #[.agg q.cells.toArray,.agg (m.cells A cap).toArray,.int .i64 now] w (QPost w Av q.c (q.pt)):=by
 have hm0:=((Blk.made w 35 q.cells.toArray).alloc (.cells (m.cells A cap).toArray 46)).alloc (.cells zero20.toArray 35)
 have he:=(Blk.made (w.alloc (.cells q.cells.toArray 35)) 46 (m.cells A cap).toArray).alloc (.cells zero20.toArray 35)
 have hz:=Blk.made ((w.alloc (.cells q.cells.toArray 35)).alloc (.cells (m.cells A cap).toArray 46)) 35 zero20.toArray
 have hw:Same w (((w.alloc (.cells q.cells.toArray 35)).alloc (.cells (m.cells A cap).toArray 46)).alloc (.cells zero20.toArray 35)):=(((Keep.refl _ _).alloc _).alloc _).alloc _
 rw [World.size_alloc] at he
 rw [World.size_alloc,World.size_alloc] at hz
 generalize hw1:(((w.alloc (.cells q.cells.toArray 35)).alloc (.cells (m.cells A cap).toArray 46)).alloc (.cells zero20.toArray 35))=w1 at *
 have hsz:w1.heap.size=w.heap.size+3:=by rw [←hw1];simp only [World.size_alloc]
 have HVT:=hid (fun W=>show Calls Tryz.prog 101 #[.int .i64 now] W (fun e w'=>e=.returned (.bool (vN now 0))∧W=w') from rtick_any W now)
 have HFIN:=hid (fun (A2:Nat→Prop) (qj:QS) (W:World) (Y:XS) (hr:RX W A2 qj) (hA:∀ j,j=w.heap.size+1+1∨Av j→A2 j) (hp:qj.pt=Y) (hc:qj.c=q.c) (hk:Same w W)=>show QPost w Av q.c Y (.returned (.agg qj.cells.toArray)) (W.setRow (w.heap.size+1+1) qj.cells.toArray) from by
  have hkr:Keep (fun j=>j=w.heap.size+1+1) W (W.setRow (w.heap.size+1+1) qj.cells.toArray):=Keep.row _ _ _
  exact ⟨qj,rfl,(hr.keep hkr (fun j _ e=>hA j (.inl e))).wide (fun j _ hj=>hA j (.inr hj)),hp,hc,hk.trans hkr (fun j hj e=>by have e2:j=w.heap.size+1+1:=e;omega)⟩)
 have HSAME:=hid (fun (W:World) (hk:Same w1 W)=>HFIN.out (AvN w Av w1) q W q.pt (h.later (hw.then hk) AvN.or) (fun j hj=>hj.elim (fun e=>.inr (by omega)) .inl) rfl rfl (hw.then hk))
 have HM:=hid hm0
 have HN:=hid he
 have HZ:=hid hz
 have HW:=hid hw
 have HR:=hid h
 have HAV:=hid hAv
 have HSZ:=hid hsz
 have HOK:=hid hok
 have HML:=hid (And.intro hn (And.intro hno hne))
 have h03:w.heap.size<w1.heap.size:=by omega
 have h13:w.heap.size+1<w1.heap.size:=by omega
 have c0:w1.cell? ⟨w.heap.size,0,none⟩=some (.int .i64 q.c.cen):=hm0.at_ 0
 have n0:w1.cell? ⟨w.heap.size+1,0,none⟩=some (.int .i64 m.k):=he.at_ 0
 have n1:w1.cell? ⟨w.heap.size+1,1,none⟩=some (.int .i64 m.call):=he.at_ 1
 have n3:w1.cell? ⟨w.heap.size+1,3,none⟩=some (.int .i64 m.c):=he.at_ 3
 have HV:=hid hv
 have d1:decide (q.c.cen≤m.c)=false:=decide_eq_false (by omega)
 have d8:(m.k == 8)=false:=by simpa using h8
 have HFI:=hid (fun W=>show Calls Tryz.prog 16 #[.agg q.cells.toArray,.int .i64 m.call] W (fun e w'=>e=.returned (.int .i64 (-1))∧Same W w') from by
  have:=findQ W q hn m.call
  unfold findI at this
  rw [hi] at this
  exact this)
 clear hm0 he hz hw h hAv hok _hown _hm _hb hsz hn hno hne
 clear hv hc h8 hi
 go_enter Tryz.func65,Tryz.ntmps65
 go_upto_region 1 with fail
 try simp only [zero20] at hw1
 try rw [hw1]
 clear hw1
 go_upto_region 6 with (first
  | (go_at_call 101;(with_reducible refine (HVT.out _).mono ?_);rintro e1 w2 ⟨rfl,rfl⟩;rw [HV.out])
  | (refine wpList_load_row rfl _ (.tmp 3) rfl w.heap.size rfl _ q.cells.toArray (0,0) _ HM.out Tryz.underlying35 rfl (by kernel_rfl) ?_)
  | (go_at_call 16;(with_reducible refine (HFI.out _).mono ?_);rintro e1 w2 ⟨rfl,hk2⟩;have HK2:=hid hk2;have HM2:=hid (HM.out.keep hk2 (fun f=>f));have HN2:=hid (HN.out.keep hk2 (fun f=>f));have HZ2:=hid (HZ.out.keep hk2 (fun f=>f));clear hk2))
 refine wp_region_held_drew (S:=fun W=>W.cell? ⟨w.heap.size+1,3,none⟩=some (.int .i64 m.c)) (by kernel_rfl) (HN2.out.at_ 3) (fun hHeld=>?_)
 refine tk 0 ?_
 refine tk 1 ?_
 refine tk 2 ?_
 refine tu 3 ?_
 refine tu 4 ?_
 refine tu 5 ?_
 refine tu 6 ?_
 refine tu 7 ?_
 refine tu 8 ?_
 refine tu 9 ?_
 refine tu 10 ?_
 refine tu 11 ?_
 refine tu 12 ?_
 refine tk 13 ?_
 refine tk 14 ?_
 refine tu 15 ?_
 refine tu 16 ?_
 refine tu 17 ?_
 refine tu 18 ?_
 refine tu 19 ?_
 refine tu 20 ?_
 refine tu 21 ?_
 refine tu 22 ?_
 refine tu 23 ?_
 refine tu 24 ?_
 refine tk 25 ?_
 refine tk 26 ?_
 refine tu 27 ?_
 refine tu 28 ?_
 refine tu 29 ?_
 refine tu 30 ?_
 refine tu 31 ?_
 refine tu 32 ?_
 refine tu 33 ?_
 refine tu 34 ?_
 refine tk 35 ?_
 refine wpAnyH_done (by kernel_rfl) ?_ _
 have HMd:=hid (HM2.out.keep (Keep.refl (fun _=>False) w2).drew (fun f=>f))
 have HZd:=hid (HZ2.out.keep (Keep.refl (fun _=>False) w2).drew (fun f=>f))
 have HKd:=hid (HK2.out.drew)
 generalize w2.drew=wd at *
 go_wp2_with (first
  | (refine wpList_load_row rfl _ (.tmp 3) rfl w.heap.size rfl _ q.cells.toArray (0,0) _ HMd.out Tryz.underlying35 rfl (by kernel_rfl) ?_)
  | (refine wpList_store_row rfl _ (.tmp 6) (.tmp 70) rfl (w.heap.size+1+1) q.cells.toArray rfl rfl _ _ HZd.out (by kernel_rfl) rfl (one_toArray (q_one q)) ?_))
 refine bodyPost_ret (results_cell_row rfl _ _ _ _ _ _ _ rfl (HZd.out.row _) Tryz.underlying35 rfl (by kernel_rfl)) rfl ?_
 exact HSAME.out _ HKd.out
set_option maxHeartbeats 8000000 in
set_option maxRecDepth 100000 in
theorem hear_cen (w:World) (Av:Nat→Prop) (hAv:∀ i,Av i→i<w.heap.size) (q:QS) (h:RX w Av q) (hok:XOk q.pt) (_hown:XOwn q.pt) (hn:q.R.length≤1000) (hno:q.out.length≤800000) (hne:q.ev.length≤800000) (now:Int) (m:Nt) (A:Option Addr) (cap:Nat) (_hm:vM m=true) (_hb:Sl w Av 1 A m.body.length (bcells m.body)) (hv:vN now 0=true) (hc:m.c<q.c.cen) (h8:m.k≠8) (k:Nat) (hi:idx q.R.length m.call=some k) (x:QA) (hx:q.R[k]? = some x) (hcn:x.s.cen≠m.c):Calls Tryz.prog 65 #[.agg q.cells.toArray,.agg (m.cells A cap).toArray,.int .i64 now] w (QPost w Av q.c (q.pt)):=by
 have hm0:=((Blk.made w 35 q.cells.toArray).alloc (.cells (m.cells A cap).toArray 46)).alloc (.cells zero20.toArray 35)
 have he:=(Blk.made (w.alloc (.cells q.cells.toArray 35)) 46 (m.cells A cap).toArray).alloc (.cells zero20.toArray 35)
 have hz:=Blk.made ((w.alloc (.cells q.cells.toArray 35)).alloc (.cells (m.cells A cap).toArray 46)) 35 zero20.toArray
 have hw:Same w (((w.alloc (.cells q.cells.toArray 35)).alloc (.cells (m.cells A cap).toArray 46)).alloc (.cells zero20.toArray 35)):=(((Keep.refl _ _).alloc _).alloc _).alloc _
 rw [World.size_alloc] at he
 rw [World.size_alloc,World.size_alloc] at hz
 generalize hw1:(((w.alloc (.cells q.cells.toArray 35)).alloc (.cells (m.cells A cap).toArray 46)).alloc (.cells zero20.toArray 35))=w1 at *
 have hsz:w1.heap.size=w.heap.size+3:=by rw [←hw1];simp only [World.size_alloc]
 have HVT:=hid (fun W=>show Calls Tryz.prog 101 #[.int .i64 now] W (fun e w'=>e=.returned (.bool (vN now 0))∧W=w') from rtick_any W now)
 have HFIN:=hid (fun (A2:Nat→Prop) (qj:QS) (W:World) (Y:XS) (hr:RX W A2 qj) (hA:∀ j,j=w.heap.size+1+1∨Av j→A2 j) (hp:qj.pt=Y) (hc:qj.c=q.c) (hk:Same w W)=>show QPost w Av q.c Y (.returned (.agg qj.cells.toArray)) (W.setRow (w.heap.size+1+1) qj.cells.toArray) from by
  have hkr:Keep (fun j=>j=w.heap.size+1+1) W (W.setRow (w.heap.size+1+1) qj.cells.toArray):=Keep.row _ _ _
  exact ⟨qj,rfl,(hr.keep hkr (fun j _ e=>hA j (.inl e))).wide (fun j _ hj=>hA j (.inr hj)),hp,hc,hk.trans hkr (fun j hj e=>by have e2:j=w.heap.size+1+1:=e;omega)⟩)
 have HSAME:=hid (fun (W:World) (hk:Same w1 W)=>HFIN.out (AvN w Av w1) q W q.pt (h.later (hw.then hk) AvN.or) (fun j hj=>hj.elim (fun e=>.inr (by omega)) .inl) rfl rfl (hw.then hk))
 have HM:=hid hm0
 have HN:=hid he
 have HZ:=hid hz
 have HW:=hid hw
 have HR:=hid h
 have HAV:=hid hAv
 have HSZ:=hid hsz
 have HOK:=hid hok
 have HML:=hid (And.intro hn (And.intro hno hne))
 have h03:w.heap.size<w1.heap.size:=by omega
 have h13:w.heap.size+1<w1.heap.size:=by omega
 have c0:w1.cell? ⟨w.heap.size,0,none⟩=some (.int .i64 q.c.cen):=hm0.at_ 0
 have n0:w1.cell? ⟨w.heap.size+1,0,none⟩=some (.int .i64 m.k):=he.at_ 0
 have n1:w1.cell? ⟨w.heap.size+1,1,none⟩=some (.int .i64 m.call):=he.at_ 1
 have n3:w1.cell? ⟨w.heap.size+1,3,none⟩=some (.int .i64 m.c):=he.at_ 3
 have HV:=hid hv
 have d1:decide (q.c.cen≤m.c)=false:=decide_eq_false (by omega)
 have d8:(m.k == 8)=false:=by simpa using h8
 have HFI:=hid (fun W=>show Calls Tryz.prog 16 #[.agg q.cells.toArray,.int .i64 m.call] W (fun e w'=>e=.returned (.int .i64 (k:Int))∧Same W w') from by
  have:=findQ W q hn m.call
  unfold findI at this
  rw [hi] at this
  exact this)
 obtain ⟨hcall,hkl⟩:=idx_some hi
 have HKL:=hid hkl
 obtain ⟨rb,off,hLA,hrb,_,hrow⟩:=(h.L.same hw).at_ (by omega)
 have hrg:=range_row hrow hx
 have HRX:=hid hrg
 have z15:w1.cell? ⟨w.heap.size,15,none⟩=some (.slice q.LA q.R.length q.lc):=hm0.at_ 15
 rw [hLA] at z15
 have HZ15:=hid z15
 have hkk:(k:Int)<(q.R.length:Int):=by omega
 have hk0:(0:Int)≤(k:Int):=Int.natCast_nonneg _
 have dk:decide ((k:Int)<0)=false:=decide_eq_false (by omega)
 have hxp:q.pt.L[k]? = some x.pt:=by show (q.R.map QA.pt)[k]? = _;rw [List.getElem?_map,hx];rfl
 have HVL:=hid (hok.ln k x.pt hxp).1
 have HXX:=hid hx
 have HRL:=hid (fun (W W2:World) (hk:Same w W)=>show RX W (AvN w Av W2) q from h.later hk AvN.or)
 have e1:(x.s.cen != m.c)=true:=by simpa using hcn
 clear hm0 he hz hw h hAv hok _hown _hm _hb hsz hn hno hne
 clear hv hc h8 hi hx hcall hkl hLA hrb hrow hrg z15 hxp
 clear hcn
 go_enter Tryz.func65,Tryz.ntmps65
 go_upto_region 1 with fail
 try simp only [zero20] at hw1
 try rw [hw1]
 clear hw1
 go_upto_region 6 with (first
  | (go_at_call 101;(with_reducible refine (HVT.out _).mono ?_);rintro e1 w2 ⟨rfl,rfl⟩;rw [HV.out])
  | (refine wpList_load_row rfl _ (.tmp 3) rfl w.heap.size rfl _ q.cells.toArray (0,0) _ HM.out Tryz.underlying35 rfl (by kernel_rfl) ?_)
  | (go_at_call 16;(with_reducible refine (HFI.out _).mono ?_);rintro e1 w2 ⟨rfl,hk2⟩;have HK2:=hid hk2;have HM2:=hid (HM.out.keep hk2 (fun f=>f));have HN2:=hid (HN.out.keep hk2 (fun f=>f));have HZ2:=hid (HZ.out.keep hk2 (fun f=>f));clear hk2))
 have hrg2:=range_same HRX.out HK2.out
 have z15:w2.cell? ⟨w.heap.size,15,none⟩=some (.slice (some ⟨rb,off,none⟩) q.R.length q.lc):=(HK2.out.cell (p:=⟨w.heap.size,15,none⟩) h03 (fun f=>f)).trans HZ15.out
 refine wp_region_held_drew (S:=fun W=>W.cell? ⟨w.heap.size,15,none⟩=some (.slice (some ⟨rb,off,none⟩) q.R.length q.lc)∧W.cell? ⟨rb,off+k * 11+3,none⟩=some (.int .i64 x.s.cen)∧W.cell? ⟨rb,off+k * 11+4,none⟩=some (.int .i64 x.s.ep)∧W.cell? ⟨rb,off+k * 11+1,none⟩=some (.int .i64 x.s.st)∧W.cell? ⟨w.heap.size+1,3,none⟩=some (.int .i64 m.c)∧W.cell? ⟨w.heap.size+1,4,none⟩=some (.int .i64 m.e)) (by kernel_rfl) ⟨z15,(hrg2 3 _ rfl),(hrg2 4 _ rfl),(hrg2 1 _ rfl),(HN2.out.at_ 3),(HN2.out.at_ 4)⟩ (fun hHeld=>?_)
 refine tk 0 ?_
 refine tk 1 ?_
 refine tk 2 ?_
 refine tk 3 ?_
 refine tk 4 ?_
 refine tk 5 ?_
 refine tk 6 ?_
 refine tk 7 ?_
 refine tk 8 ?_
 refine tk 9 ?_
 refine tk 10 ?_
 refine tk 11 ?_
 refine tk 12 ?_
 refine tk 13 ?_
 refine tk 14 ?_
 refine tu 15 ?_
 refine tu 16 ?_
 refine tu 17 ?_
 refine tu 18 ?_
 refine tu 19 ?_
 refine tu 20 ?_
 refine tu 21 ?_
 refine tu 22 ?_
 refine tu 23 ?_
 refine tu 24 ?_
 refine tk 25 ?_
 refine tk 26 ?_
 refine tu 27 ?_
 refine tu 28 ?_
 refine tu 29 ?_
 refine tu 30 ?_
 refine tu 31 ?_
 refine tu 32 ?_
 refine tu 33 ?_
 refine tu 34 ?_
 refine tk 35 ?_
 refine wpAnyH_done (by kernel_rfl) ?_ _
 have HMd:=hid (HM2.out.keep (Keep.refl (fun _=>False) w2).drew (fun f=>f))
 have HNd:=hid (HN2.out.keep (Keep.refl (fun _=>False) w2).drew (fun f=>f))
 have HZd:=hid (HZ2.out.keep (Keep.refl (fun _=>False) w2).drew (fun f=>f))
 have HKd:=hid (HK2.out.drew)
 have HRGd:=hid (range_same hrg2 (Keep.refl (fun _=>False) w2).drew)
 have z15:w2.drew.cell? ⟨w.heap.size,15,none⟩=some (.slice (some ⟨rb,off,none⟩) q.R.length q.lc):=z15
 clear hrg2 HM2 HN2 HZ2 HK2
 generalize w2.drew=wd at *
 go_wp2_with (first
  | (refine wpList_load_row rfl _ (.tmp 3) rfl w.heap.size rfl _ q.cells.toArray (0,0) _ HMd.out Tryz.underlying35 rfl (by kernel_rfl) ?_)
  | (refine wpList_store_row rfl _ (.tmp 6) (.tmp 70) rfl (w.heap.size+1+1) q.cells.toArray rfl rfl _ _ HZd.out (by kernel_rfl) rfl (one_toArray (q_one q)) ?_))
 refine bodyPost_ret (results_cell_row rfl _ _ _ _ _ _ _ rfl (HZd.out.row _) Tryz.underlying35 rfl (by kernel_rfl)) rfl ?_
 exact HSAME.out _ HKd.out
set_option maxHeartbeats 8000000 in
set_option maxRecDepth 100000 in
theorem hear_ep (w:World) (Av:Nat→Prop) (hAv:∀ i,Av i→i<w.heap.size) (q:QS) (h:RX w Av q) (hok:XOk q.pt) (_hown:XOwn q.pt) (hn:q.R.length≤1000) (hno:q.out.length≤800000) (hne:q.ev.length≤800000) (now:Int) (m:Nt) (A:Option Addr) (cap:Nat) (_hm:vM m=true) (_hb:Sl w Av 1 A m.body.length (bcells m.body)) (hv:vN now 0=true) (hc:m.c<q.c.cen) (h8:m.k≠8) (k:Nat) (hi:idx q.R.length m.call=some k) (x:QA) (hx:q.R[k]? = some x) (hcn:x.s.cen=m.c) (hep:x.s.ep≠m.e):Calls Tryz.prog 65 #[.agg q.cells.toArray,.agg (m.cells A cap).toArray,.int .i64 now] w (QPost w Av q.c (q.pt)):=by
 have hm0:=((Blk.made w 35 q.cells.toArray).alloc (.cells (m.cells A cap).toArray 46)).alloc (.cells zero20.toArray 35)
 have he:=(Blk.made (w.alloc (.cells q.cells.toArray 35)) 46 (m.cells A cap).toArray).alloc (.cells zero20.toArray 35)
 have hz:=Blk.made ((w.alloc (.cells q.cells.toArray 35)).alloc (.cells (m.cells A cap).toArray 46)) 35 zero20.toArray
 have hw:Same w (((w.alloc (.cells q.cells.toArray 35)).alloc (.cells (m.cells A cap).toArray 46)).alloc (.cells zero20.toArray 35)):=(((Keep.refl _ _).alloc _).alloc _).alloc _
 rw [World.size_alloc] at he
 rw [World.size_alloc,World.size_alloc] at hz
 generalize hw1:(((w.alloc (.cells q.cells.toArray 35)).alloc (.cells (m.cells A cap).toArray 46)).alloc (.cells zero20.toArray 35))=w1 at *
 have hsz:w1.heap.size=w.heap.size+3:=by rw [←hw1];simp only [World.size_alloc]
 have HVT:=hid (fun W=>show Calls Tryz.prog 101 #[.int .i64 now] W (fun e w'=>e=.returned (.bool (vN now 0))∧W=w') from rtick_any W now)
 have HFIN:=hid (fun (A2:Nat→Prop) (qj:QS) (W:World) (Y:XS) (hr:RX W A2 qj) (hA:∀ j,j=w.heap.size+1+1∨Av j→A2 j) (hp:qj.pt=Y) (hc:qj.c=q.c) (hk:Same w W)=>show QPost w Av q.c Y (.returned (.agg qj.cells.toArray)) (W.setRow (w.heap.size+1+1) qj.cells.toArray) from by
  have hkr:Keep (fun j=>j=w.heap.size+1+1) W (W.setRow (w.heap.size+1+1) qj.cells.toArray):=Keep.row _ _ _
  exact ⟨qj,rfl,(hr.keep hkr (fun j _ e=>hA j (.inl e))).wide (fun j _ hj=>hA j (.inr hj)),hp,hc,hk.trans hkr (fun j hj e=>by have e2:j=w.heap.size+1+1:=e;omega)⟩)
 have HSAME:=hid (fun (W:World) (hk:Same w1 W)=>HFIN.out (AvN w Av w1) q W q.pt (h.later (hw.then hk) AvN.or) (fun j hj=>hj.elim (fun e=>.inr (by omega)) .inl) rfl rfl (hw.then hk))
 have HM:=hid hm0
 have HN:=hid he
 have HZ:=hid hz
 have HW:=hid hw
 have HR:=hid h
 have HAV:=hid hAv
 have HSZ:=hid hsz
 have HOK:=hid hok
 have HML:=hid (And.intro hn (And.intro hno hne))
 have h03:w.heap.size<w1.heap.size:=by omega
 have h13:w.heap.size+1<w1.heap.size:=by omega
 have c0:w1.cell? ⟨w.heap.size,0,none⟩=some (.int .i64 q.c.cen):=hm0.at_ 0
 have n0:w1.cell? ⟨w.heap.size+1,0,none⟩=some (.int .i64 m.k):=he.at_ 0
 have n1:w1.cell? ⟨w.heap.size+1,1,none⟩=some (.int .i64 m.call):=he.at_ 1
 have n3:w1.cell? ⟨w.heap.size+1,3,none⟩=some (.int .i64 m.c):=he.at_ 3
 have HV:=hid hv
 have d1:decide (q.c.cen≤m.c)=false:=decide_eq_false (by omega)
 have d8:(m.k == 8)=false:=by simpa using h8
 have HFI:=hid (fun W=>show Calls Tryz.prog 16 #[.agg q.cells.toArray,.int .i64 m.call] W (fun e w'=>e=.returned (.int .i64 (k:Int))∧Same W w') from by
  have:=findQ W q hn m.call
  unfold findI at this
  rw [hi] at this
  exact this)
 obtain ⟨hcall,hkl⟩:=idx_some hi
 have HKL:=hid hkl
 obtain ⟨rb,off,hLA,hrb,_,hrow⟩:=(h.L.same hw).at_ (by omega)
 have hrg:=range_row hrow hx
 have HRX:=hid hrg
 have z15:w1.cell? ⟨w.heap.size,15,none⟩=some (.slice q.LA q.R.length q.lc):=hm0.at_ 15
 rw [hLA] at z15
 have HZ15:=hid z15
 have hkk:(k:Int)<(q.R.length:Int):=by omega
 have hk0:(0:Int)≤(k:Int):=Int.natCast_nonneg _
 have dk:decide ((k:Int)<0)=false:=decide_eq_false (by omega)
 have hxp:q.pt.L[k]? = some x.pt:=by show (q.R.map QA.pt)[k]? = _;rw [List.getElem?_map,hx];rfl
 have HVL:=hid (hok.ln k x.pt hxp).1
 have HXX:=hid hx
 have HRL:=hid (fun (W W2:World) (hk:Same w W)=>show RX W (AvN w Av W2) q from h.later hk AvN.or)
 have e1:(x.s.cen != m.c)=false:=by simpa using hcn
 have e2:(x.s.ep != m.e)=true:=by simpa using hep
 clear hm0 he hz hw h hAv hok _hown _hm _hb hsz hn hno hne
 clear hv hc h8 hi hx hcall hkl hLA hrb hrow hrg z15 hxp
 clear hcn hep
 go_enter Tryz.func65,Tryz.ntmps65
 go_upto_region 1 with fail
 try simp only [zero20] at hw1
 try rw [hw1]
 clear hw1
 go_upto_region 6 with (first
  | (go_at_call 101;(with_reducible refine (HVT.out _).mono ?_);rintro e1 w2 ⟨rfl,rfl⟩;rw [HV.out])
  | (refine wpList_load_row rfl _ (.tmp 3) rfl w.heap.size rfl _ q.cells.toArray (0,0) _ HM.out Tryz.underlying35 rfl (by kernel_rfl) ?_)
  | (go_at_call 16;(with_reducible refine (HFI.out _).mono ?_);rintro e1 w2 ⟨rfl,hk2⟩;have HK2:=hid hk2;have HM2:=hid (HM.out.keep hk2 (fun f=>f));have HN2:=hid (HN.out.keep hk2 (fun f=>f));have HZ2:=hid (HZ.out.keep hk2 (fun f=>f));clear hk2))
 have hrg2:=range_same HRX.out HK2.out
 have z15:w2.cell? ⟨w.heap.size,15,none⟩=some (.slice (some ⟨rb,off,none⟩) q.R.length q.lc):=(HK2.out.cell (p:=⟨w.heap.size,15,none⟩) h03 (fun f=>f)).trans HZ15.out
 refine wp_region_held_drew (S:=fun W=>W.cell? ⟨w.heap.size,15,none⟩=some (.slice (some ⟨rb,off,none⟩) q.R.length q.lc)∧W.cell? ⟨rb,off+k * 11+3,none⟩=some (.int .i64 x.s.cen)∧W.cell? ⟨rb,off+k * 11+4,none⟩=some (.int .i64 x.s.ep)∧W.cell? ⟨rb,off+k * 11+1,none⟩=some (.int .i64 x.s.st)∧W.cell? ⟨w.heap.size+1,3,none⟩=some (.int .i64 m.c)∧W.cell? ⟨w.heap.size+1,4,none⟩=some (.int .i64 m.e)) (by kernel_rfl) ⟨z15,(hrg2 3 _ rfl),(hrg2 4 _ rfl),(hrg2 1 _ rfl),(HN2.out.at_ 3),(HN2.out.at_ 4)⟩ (fun hHeld=>?_)
 refine tk 0 ?_
 refine tk 1 ?_
 refine tk 2 ?_
 refine tk 3 ?_
 refine tk 4 ?_
 refine tk 5 ?_
 refine tk 6 ?_
 refine tk 7 ?_
 refine tk 8 ?_
 refine tk 9 ?_
 refine tk 10 ?_
 refine tk 11 ?_
 refine tk 12 ?_
 refine tk 13 ?_
 refine tk 14 ?_
 refine tk 15 ?_
 refine tk 16 ?_
 refine tk 17 ?_
 refine tk 18 ?_
 refine tk 19 ?_
 refine tk 20 ?_
 refine tk 21 ?_
 refine tk 22 ?_
 refine tk 23 ?_
 refine tk 24 ?_
 refine tk 25 ?_
 refine tk 26 ?_
 refine tu 27 ?_
 refine tu 28 ?_
 refine tu 29 ?_
 refine tu 30 ?_
 refine tu 31 ?_
 refine tu 32 ?_
 refine tu 33 ?_
 refine tu 34 ?_
 refine tk 35 ?_
 refine wpAnyH_done (by kernel_rfl) ?_ _
 have HMd:=hid (HM2.out.keep (Keep.refl (fun _=>False) w2).drew (fun f=>f))
 have HNd:=hid (HN2.out.keep (Keep.refl (fun _=>False) w2).drew (fun f=>f))
 have HZd:=hid (HZ2.out.keep (Keep.refl (fun _=>False) w2).drew (fun f=>f))
 have HKd:=hid (HK2.out.drew)
 have HRGd:=hid (range_same hrg2 (Keep.refl (fun _=>False) w2).drew)
 have z15:w2.drew.cell? ⟨w.heap.size,15,none⟩=some (.slice (some ⟨rb,off,none⟩) q.R.length q.lc):=z15
 clear hrg2 HM2 HN2 HZ2 HK2
 generalize w2.drew=wd at *
 go_wp2_with (first
  | (refine wpList_load_row rfl _ (.tmp 3) rfl w.heap.size rfl _ q.cells.toArray (0,0) _ HMd.out Tryz.underlying35 rfl (by kernel_rfl) ?_)
  | (refine wpList_store_row rfl _ (.tmp 6) (.tmp 70) rfl (w.heap.size+1+1) q.cells.toArray rfl rfl _ _ HZd.out (by kernel_rfl) rfl (one_toArray (q_one q)) ?_))
 refine bodyPost_ret (results_cell_row rfl _ _ _ _ _ _ _ rfl (HZd.out.row _) Tryz.underlying35 rfl (by kernel_rfl)) rfl ?_
 exact HSAME.out _ HKd.out
set_option maxHeartbeats 8000000 in
set_option maxRecDepth 100000 in
theorem hear_shut (w:World) (Av:Nat→Prop) (hAv:∀ i,Av i→i<w.heap.size) (q:QS) (h:RX w Av q) (hok:XOk q.pt) (_hown:XOwn q.pt) (hn:q.R.length≤1000) (hno:q.out.length≤800000) (hne:q.ev.length≤800000) (now:Int) (m:Nt) (A:Option Addr) (cap:Nat) (_hm:vM m=true) (_hb:Sl w Av 1 A m.body.length (bcells m.body)) (hv:vN now 0=true) (hc:m.c<q.c.cen) (h8:m.k≠8) (k:Nat) (hi:idx q.R.length m.call=some k) (x:QA) (hx:q.R[k]? = some x) (hcn:x.s.cen=m.c) (hep:x.s.ep=m.e) (hst:x.s.st=5):Calls Tryz.prog 65 #[.agg q.cells.toArray,.agg (m.cells A cap).toArray,.int .i64 now] w (QPost w Av q.c (q.pt)):=by
 have hm0:=((Blk.made w 35 q.cells.toArray).alloc (.cells (m.cells A cap).toArray 46)).alloc (.cells zero20.toArray 35)
 have he:=(Blk.made (w.alloc (.cells q.cells.toArray 35)) 46 (m.cells A cap).toArray).alloc (.cells zero20.toArray 35)
 have hz:=Blk.made ((w.alloc (.cells q.cells.toArray 35)).alloc (.cells (m.cells A cap).toArray 46)) 35 zero20.toArray
 have hw:Same w (((w.alloc (.cells q.cells.toArray 35)).alloc (.cells (m.cells A cap).toArray 46)).alloc (.cells zero20.toArray 35)):=(((Keep.refl _ _).alloc _).alloc _).alloc _
 rw [World.size_alloc] at he
 rw [World.size_alloc,World.size_alloc] at hz
 generalize hw1:(((w.alloc (.cells q.cells.toArray 35)).alloc (.cells (m.cells A cap).toArray 46)).alloc (.cells zero20.toArray 35))=w1 at *
 have hsz:w1.heap.size=w.heap.size+3:=by rw [←hw1];simp only [World.size_alloc]
 have HVT:=hid (fun W=>show Calls Tryz.prog 101 #[.int .i64 now] W (fun e w'=>e=.returned (.bool (vN now 0))∧W=w') from rtick_any W now)
 have HFIN:=hid (fun (A2:Nat→Prop) (qj:QS) (W:World) (Y:XS) (hr:RX W A2 qj) (hA:∀ j,j=w.heap.size+1+1∨Av j→A2 j) (hp:qj.pt=Y) (hc:qj.c=q.c) (hk:Same w W)=>show QPost w Av q.c Y (.returned (.agg qj.cells.toArray)) (W.setRow (w.heap.size+1+1) qj.cells.toArray) from by
  have hkr:Keep (fun j=>j=w.heap.size+1+1) W (W.setRow (w.heap.size+1+1) qj.cells.toArray):=Keep.row _ _ _
  exact ⟨qj,rfl,(hr.keep hkr (fun j _ e=>hA j (.inl e))).wide (fun j _ hj=>hA j (.inr hj)),hp,hc,hk.trans hkr (fun j hj e=>by have e2:j=w.heap.size+1+1:=e;omega)⟩)
 have HSAME:=hid (fun (W:World) (hk:Same w1 W)=>HFIN.out (AvN w Av w1) q W q.pt (h.later (hw.then hk) AvN.or) (fun j hj=>hj.elim (fun e=>.inr (by omega)) .inl) rfl rfl (hw.then hk))
 have HM:=hid hm0
 have HN:=hid he
 have HZ:=hid hz
 have HW:=hid hw
 have HR:=hid h
 have HAV:=hid hAv
 have HSZ:=hid hsz
 have HOK:=hid hok
 have HML:=hid (And.intro hn (And.intro hno hne))
 have h03:w.heap.size<w1.heap.size:=by omega
 have h13:w.heap.size+1<w1.heap.size:=by omega
 have c0:w1.cell? ⟨w.heap.size,0,none⟩=some (.int .i64 q.c.cen):=hm0.at_ 0
 have n0:w1.cell? ⟨w.heap.size+1,0,none⟩=some (.int .i64 m.k):=he.at_ 0
 have n1:w1.cell? ⟨w.heap.size+1,1,none⟩=some (.int .i64 m.call):=he.at_ 1
 have n3:w1.cell? ⟨w.heap.size+1,3,none⟩=some (.int .i64 m.c):=he.at_ 3
 have HV:=hid hv
 have d1:decide (q.c.cen≤m.c)=false:=decide_eq_false (by omega)
 have d8:(m.k == 8)=false:=by simpa using h8
 have HFI:=hid (fun W=>show Calls Tryz.prog 16 #[.agg q.cells.toArray,.int .i64 m.call] W (fun e w'=>e=.returned (.int .i64 (k:Int))∧Same W w') from by
  have:=findQ W q hn m.call
  unfold findI at this
  rw [hi] at this
  exact this)
 obtain ⟨hcall,hkl⟩:=idx_some hi
 have HKL:=hid hkl
 obtain ⟨rb,off,hLA,hrb,_,hrow⟩:=(h.L.same hw).at_ (by omega)
 have hrg:=range_row hrow hx
 have HRX:=hid hrg
 have z15:w1.cell? ⟨w.heap.size,15,none⟩=some (.slice q.LA q.R.length q.lc):=hm0.at_ 15
 rw [hLA] at z15
 have HZ15:=hid z15
 have hkk:(k:Int)<(q.R.length:Int):=by omega
 have hk0:(0:Int)≤(k:Int):=Int.natCast_nonneg _
 have dk:decide ((k:Int)<0)=false:=decide_eq_false (by omega)
 have hxp:q.pt.L[k]? = some x.pt:=by show (q.R.map QA.pt)[k]? = _;rw [List.getElem?_map,hx];rfl
 have HVL:=hid (hok.ln k x.pt hxp).1
 have HXX:=hid hx
 have HRL:=hid (fun (W W2:World) (hk:Same w W)=>show RX W (AvN w Av W2) q from h.later hk AvN.or)
 have e1:(x.s.cen != m.c)=false:=by simpa using hcn
 have e2:(x.s.ep != m.e)=false:=by simpa using hep
 have e3:(x.s.st == 5)=true:=by simpa using hst
 clear hm0 he hz hw h hAv hok _hown _hm _hb hsz hn hno hne
 clear hv hc h8 hi hx hcall hkl hLA hrb hrow hrg z15 hxp
 clear hcn hep hst
 go_enter Tryz.func65,Tryz.ntmps65
 go_upto_region 1 with fail
 try simp only [zero20] at hw1
 try rw [hw1]
 clear hw1
 go_upto_region 6 with (first
  | (go_at_call 101;(with_reducible refine (HVT.out _).mono ?_);rintro e1 w2 ⟨rfl,rfl⟩;rw [HV.out])
  | (refine wpList_load_row rfl _ (.tmp 3) rfl w.heap.size rfl _ q.cells.toArray (0,0) _ HM.out Tryz.underlying35 rfl (by kernel_rfl) ?_)
  | (go_at_call 16;(with_reducible refine (HFI.out _).mono ?_);rintro e1 w2 ⟨rfl,hk2⟩;have HK2:=hid hk2;have HM2:=hid (HM.out.keep hk2 (fun f=>f));have HN2:=hid (HN.out.keep hk2 (fun f=>f));have HZ2:=hid (HZ.out.keep hk2 (fun f=>f));clear hk2))
 have hrg2:=range_same HRX.out HK2.out
 have z15:w2.cell? ⟨w.heap.size,15,none⟩=some (.slice (some ⟨rb,off,none⟩) q.R.length q.lc):=(HK2.out.cell (p:=⟨w.heap.size,15,none⟩) h03 (fun f=>f)).trans HZ15.out
 refine wp_region_held_drew (S:=fun W=>W.cell? ⟨w.heap.size,15,none⟩=some (.slice (some ⟨rb,off,none⟩) q.R.length q.lc)∧W.cell? ⟨rb,off+k * 11+3,none⟩=some (.int .i64 x.s.cen)∧W.cell? ⟨rb,off+k * 11+4,none⟩=some (.int .i64 x.s.ep)∧W.cell? ⟨rb,off+k * 11+1,none⟩=some (.int .i64 x.s.st)∧W.cell? ⟨w.heap.size+1,3,none⟩=some (.int .i64 m.c)∧W.cell? ⟨w.heap.size+1,4,none⟩=some (.int .i64 m.e)) (by kernel_rfl) ⟨z15,(hrg2 3 _ rfl),(hrg2 4 _ rfl),(hrg2 1 _ rfl),(HN2.out.at_ 3),(HN2.out.at_ 4)⟩ (fun hHeld=>?_)
 refine tk 0 ?_
 refine tk 1 ?_
 refine tk 2 ?_
 refine tk 3 ?_
 refine tk 4 ?_
 refine tk 5 ?_
 refine tk 6 ?_
 refine tk 7 ?_
 refine tk 8 ?_
 refine tk 9 ?_
 refine tk 10 ?_
 refine tk 11 ?_
 refine tk 12 ?_
 refine tk 13 ?_
 refine tk 14 ?_
 refine tk 15 ?_
 refine tk 16 ?_
 refine tk 17 ?_
 refine tk 18 ?_
 refine tk 19 ?_
 refine tk 20 ?_
 refine tk 21 ?_
 refine tk 22 ?_
 refine tk 23 ?_
 refine tk 24 ?_
 refine tk 25 ?_
 refine tk 26 ?_
 refine tk 27 ?_
 refine tk 28 ?_
 refine tk 29 ?_
 refine tk 30 ?_
 refine tk 31 ?_
 refine tk 32 ?_
 refine tk 33 ?_
 refine tk 34 ?_
 refine tk 35 ?_
 refine wpAnyH_done (by kernel_rfl) ?_ _
 have HMd:=hid (HM2.out.keep (Keep.refl (fun _=>False) w2).drew (fun f=>f))
 have HNd:=hid (HN2.out.keep (Keep.refl (fun _=>False) w2).drew (fun f=>f))
 have HZd:=hid (HZ2.out.keep (Keep.refl (fun _=>False) w2).drew (fun f=>f))
 have HKd:=hid (HK2.out.drew)
 have HRGd:=hid (range_same hrg2 (Keep.refl (fun _=>False) w2).drew)
 have z15:w2.drew.cell? ⟨w.heap.size,15,none⟩=some (.slice (some ⟨rb,off,none⟩) q.R.length q.lc):=z15
 clear hrg2 HM2 HN2 HZ2 HK2
 generalize w2.drew=wd at *
 go_wp2_with (first
  | (refine wpList_load_row rfl _ (.tmp 3) rfl w.heap.size rfl _ q.cells.toArray (0,0) _ HMd.out Tryz.underlying35 rfl (by kernel_rfl) ?_)
  | (refine wpList_store_row rfl _ (.tmp 6) (.tmp 70) rfl (w.heap.size+1+1) q.cells.toArray rfl rfl _ _ HZd.out (by kernel_rfl) rfl (one_toArray (q_one q)) ?_))
 refine bodyPost_ret (results_cell_row rfl _ _ _ _ _ _ _ rfl (HZd.out.row _) Tryz.underlying35 rfl (by kernel_rfl)) rfl ?_
 exact HSAME.out _ HKd.out
end Go.Proofs.YtbjddfiledoaoaaGreat

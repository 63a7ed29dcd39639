import Derived.Test.YtbjddfiledoaoaaGreatYE
namespace Go.Proofs.YtbjddfiledoaoaaGreat
open Go.RowKit
theorem say_same {s:CL} (h:VL s) (a:Int):saySR s a=sayS s a:=by
 unfold saySR sayS
 by_cases e:sayE s a=0
 ·rw [if_pos e,if_pos e]
  have hs:s.st=2∨s.st=4:=by
   unfold sayE at e
   split at e
   ·cases e
   ·split at e
    ·cases e
    ·rename_i h2
     omega
  have h4:s.since = -1:=h.busy (by omega)
  rw [←h4]
 ·rw [if_neg e,if_neg e]
def QEPost (w:World) (Av:Nat→Prop) (c:CF) (X:XS) (er:Int) (e:Ending) (w':World):Prop:=∃ q:QS,e=.returned (.tuple #[.agg q.cells.toArray,.int .i64 er])∧RX w' Av q∧q.pt=X∧q.c=c∧Same w w'
set_option maxHeartbeats 8000000 in
set_option maxRecDepth 100000 in
theorem sayQ (w:World) (Av:Nat→Prop) (hAv:∀ i,Av i→i<w.heap.size) (q:QS) (h:RX w Av q) (hok:XOk q.pt) (hn:q.R.length≤1000) (hno:q.out.length≤900000) (hne:q.ev.length≤900000) (call an now:Int):Calls Tryz.prog 61 #[.agg q.cells.toArray,.int .i64 call,.int .i64 an,.int .i64 now] w (QEPost w Av q.c (q.pt.ansS call an now) (q.pt.ansE call an now)):=by
 have hm:=(Blk.made w 35 q.cells.toArray).alloc (.cells zero20.toArray 35)
 have hz:=Blk.made (w.alloc (.cells q.cells.toArray 35)) 35 zero20.toArray
 have hw:Same w ((w.alloc (.cells q.cells.toArray 35)).alloc (.cells zero20.toArray 35)):=((Keep.refl _ _).alloc _).alloc _
 rw [World.size_alloc] at hz
 generalize hw1:((w.alloc (.cells q.cells.toArray 35)).alloc (.cells zero20.toArray 35))=w1 at *
 have hsz:w1.heap.size=w.heap.size+2:=by rw [←hw1];simp only [World.size_alloc]
 have HM:=hid hm
 have HZ:=hid hz
 have HW:=hid hw
 have HR:=hid h
 have HAV:=hid hAv
 have HSZ:=hid hsz
 have HOK:=hid hok
 have HVT:=hid (fun W=>show Calls Tryz.prog 101 #[.int .i64 now] W (fun e w'=>e=.returned (.bool (vN now 0))∧w'=W) from (rtick_any W now).mono (fun _ _ h=>⟨h.1,h.2.symm⟩))
 have HFI:=hid (fun W=>findQ W q hn call)
 have HSAME:=hid (fun (W:World) (hk:Same w1 W) (er:Int)=>show QEPost w Av q.c q.pt er (.returned (.tuple #[.agg q.cells.toArray,.int .i64 er])) (W.setRow (w.heap.size+1) q.cells.toArray) from by
  have hs:Same w (W.setRow (w.heap.size+1) q.cells.toArray):=(hw.then hk).trans (Keep.row _ _ _) (fun j hj e=>by have e2:j=w.heap.size+1:=e;omega)
  exact ⟨q,rfl,h.same hs,rfl,rfl,hs⟩)
 clear hm hz hw h hAv hok hsz
 cases hv:vN now 0 with
 | false =>
   have HV:=hid hv
   have HE:=hid (show q.pt.ansE call an now=1 from by unfold XS.ansE;rw [if_neg (by simp [hv])])
   have HS:=hid (show q.pt.ansS call an now=q.pt from by unfold XS.ansS;rw [HE.out,if_neg (by decide)])
   clear hv
   go_enter Tryz.func61,Tryz.ntmps61
   go_upto_region 1 with fail
   try simp only [zero20] at hw1
   try rw [hw1]
   clear hw1
   go_wp2_with (first
    | (go_at_call 101;(with_reducible refine (HVT.out _).mono ?_);rintro e1 w2 ⟨rfl,hw2⟩;subst hw2;rw [HV.out])
    | (refine wpList_load_row rfl _ (.tmp 4) rfl w.heap.size rfl _ q.cells.toArray (0,0) _ HM.out Tryz.underlying35 rfl (by kernel_rfl) ?_)
    | (refine wpList_store_row rfl _ (.tmp 8) (.tmp 17) rfl (w.heap.size+1) q.cells.toArray rfl rfl _ _ HZ.out (by kernel_rfl) rfl (one_toArray (q_one q)) ?_))
   refine bodyPost_ret (results_cell_tmp rfl _ _ _ _ _ _ _ _ rfl rfl (HZ.out.row _) Tryz.underlying35 rfl (by kernel_rfl)) rfl ?_
   rw [HE.out,HS.out]
   exact HSAME.out _ (Keep.refl _ _) 1
 | true =>
   have HV:=hid hv
   have hlen:q.pt.L.length=q.R.length:=by simp [QS.pt]
   have HLEN:=hid hlen
   cases hi:idx q.R.length call with
   | none =>
     have HE:=hid (show q.pt.ansE call an now=4 from by unfold XS.ansE;rw [if_pos hv,hlen,hi])
     have HS:=hid (show q.pt.ansS call an now=q.pt from by unfold XS.ansS;rw [HE.out,if_neg (by decide)])
     have HFI:=hid (fun W=>show Calls Tryz.prog 16 #[.agg q.cells.toArray,.int .i64 call] W (fun e w'=>e=.returned (.int .i64 (-1))∧Same W w') from by
      have:=HFI.out W
      unfold findI at this
      rw [hi] at this
      exact this)
     clear hv hi hlen
     go_enter Tryz.func61,Tryz.ntmps61
     go_upto_region 1 with fail
     try simp only [zero20] at hw1
     try rw [hw1]
     clear hw1
     go_upto_region 5 with (first
      | (go_at_call 101;(with_reducible refine (HVT.out _).mono ?_);rintro e1 w2 ⟨rfl,hw2⟩;subst hw2;rw [HV.out])
      | (go_at_call 16;(with_reducible refine (HFI.out _).mono ?_);rintro e1 w3 ⟨rfl,hk3⟩;have HK3:=hid hk3;have HM3:=hid (HM.out.keep hk3 (fun f=>f));have HZ3:=hid (HZ.out.keep hk3 (fun f=>f));clear hk3)
      | (refine wpList_load_row rfl _ (.tmp 4) rfl w.heap.size rfl _ q.cells.toArray (0,0) _ HM.out Tryz.underlying35 rfl (by kernel_rfl) ?_))
     go_wp2_with (first
      | (refine wpList_load_row rfl _ (.tmp 4) rfl w.heap.size rfl _ q.cells.toArray (0,0) _ HM3.out Tryz.underlying35 rfl (by kernel_rfl) ?_)
      | (refine wpList_store_row rfl _ (.tmp 8) (.tmp 23) rfl (w.heap.size+1) q.cells.toArray rfl rfl _ _ HZ3.out (by kernel_rfl) rfl (one_toArray (q_one q)) ?_))
     refine bodyPost_ret (results_cell_tmp rfl _ _ _ _ _ _ _ _ rfl rfl (HZ3.out.row _) Tryz.underlying35 rfl (by kernel_rfl)) rfl ?_
     rw [HE.out,HS.out]
     exact HSAME.out _ HK3.out 4
   | some k =>
     obtain ⟨h1,h2⟩:=idx_some hi
     obtain ⟨x,hx⟩:=get_some h2
     have hxp:q.pt.L[k]? = some x.pt:=by show (q.R.map QA.pt)[k]? = _;rw [List.getElem?_map,hx];rfl
     have HE:=hid (show q.pt.ansE call an now=sayE x.s an from by unfold XS.ansE;rw [if_pos hv,hlen,hi];simp only [hxp];rfl)
     have HFI:=hid (fun W=>show Calls Tryz.prog 16 #[.agg q.cells.toArray,.int .i64 call] W (fun e w'=>e=.returned (.int .i64 (k:Int))∧Same W w') from by
      have:=HFI.out W
      unfold findI at this
      rw [hi] at this
      exact this)
     have hvl:=(HOK.out.ln k x.pt hxp).1
     have HVL:=hid hvl
     have HXX:=hid hx
     have HII:=hid hi
     obtain ⟨rb,off,hLA,hrb,_,hrow⟩:=(HR.out.L.same HW.out).at_ (by omega)
     have hrg:=range_row hrow hx
     have HRG:=hid (show w1.rangeAt rb (off+k * 11) (x.s.cells x.A x.c) from fun j v hj=>hrg j v (by
      have hj8:j<8:=(List.getElem?_eq_some_iff.1 hj).1
      rw [show x.cells=x.s.cells x.A x.c++[.int .i64 x.d,.slice x.B x.src.length x.bc,.int .i64 x.last] from rfl,List.getElem?_append_left (by exact hj8)]
      exact hj))
     have HRX:=hid hrg
     have z15:w1.cell? ⟨w.heap.size,15,none⟩=some (.slice q.LA q.R.length q.lc):=HM.out.at_ 15
     rw [hLA] at z15
     have HZ15:=hid z15
     have hkk:(k:Int)<(q.R.length:Int):=by omega
     have hk0:(0:Int)≤(k:Int):=Int.natCast_nonneg _
     have HSY:=hid (fun W (hk:Same w1 W)=>show Calls Tryz.prog 107 #[.agg (x.s.cells x.A x.c).toArray,.int .i64 an] W (RefPost W (fun j=>Av j∨j=w.heap.size∨j=w.heap.size+1) (saySR x.s an) (sayE x.s an)) from
      rsay_any W _ x.A x.c x.s ((HR.out.lin x (List.mem_of_getElem? hx)).later (HW.out.then hk) (fun j hj=>by
       rcases hj with hj | hj | hj
       ·exact .inl hj
       ·exact .inr (by omega)
       ·exact .inr (by omega))).an an (by have:=hvl.vl.n;have h9:x.pt.s.ans.length=x.s.ans.length:=rfl;omega) (fun j hj=>by
       have h1:=HSZ.out
       have h2:=hk.size
       rcases hj with hj | hj | hj
       ·exact Nat.lt_of_lt_of_le (HAV.out j hj) (HW.out.then hk).size
       ·omega
       ·omega))
     unfold RefPost at HSY
     have HKL:=hid (show k<q.R.length from h2)
     have HSS:=hid (show saySR x.s an=sayS x.s an from say_same hvl.vl an)
     have HSG:=hid (fun (e0:sayE x.s an=0)=>show q.pt.ansS call an now=((q.pt.put k { x.pt with s:=sayS x.s an }).evt ⟨4,now,0,call,0,an⟩).offer k { x.pt with s:=sayS x.s an } now from by
      unfold XS.ansS
      rw [HE.out,if_pos e0,hlen,hi]
      simp only [hxp]
      rfl)
     have HWK:=hid (fun (W:World) (hk:Same w1 W)=>HW.out.then hk)
     have HRL:=hid (fun (W:World) (hk:Same w W)=>show RX W (fun j=>Av j∨j=w.heap.size∨j=w.heap.size+1) q from HR.out.later hk (fun j hj=>by
      rcases hj with hj | hj | hj
      ·exact .inl hj
      ·exact .inr (by omega)
      ·exact .inr (by omega)))
     have HZ8:=hid (fun W=>Blk.made W 50 #[.int .i64 0,.int .i64 0,.int .i64 0,.int .i64 0,.int .i64 0,.string ⟨#[]⟩,.int .i64 0,.slice none 0 0])
     clear hv hi hlen h1 hx hxp hvl hLA hrow hrg z15
     by_cases e0:sayE x.s an=0
     ·have d0:(sayE x.s an != 0)=false:=by simp [e0]
      have E0:=hid e0
      clear e0
      go_enter Tryz.func61,Tryz.ntmps61
      go_upto_region 1 with fail
      try simp only [zero20] at hw1
      try rw [hw1]
      clear hw1
      go_upto_region 6 with (first
       | (go_at_call 101;(with_reducible refine (HVT.out _).mono ?_);rintro e1 w2 ⟨rfl,hw2⟩;subst hw2;rw [HV.out])
       | (go_at_call 16;(with_reducible refine (HFI.out _).mono ?_);rintro e1 w3 ⟨rfl,hk3⟩;have HK3:=hid hk3;have HM3:=hid (HM.out.keep hk3 (fun f=>f));have HZ3:=hid (HZ.out.keep hk3 (fun f=>f));have z15:=(hk3.cell (p:=⟨w.heap.size,15,none⟩) HM.out.lt (fun f=>f)).trans HZ15.out;have HRG3:=hid (range_same HRG.out hk3);clear hk3)
       | (refine wpList_load_row rfl _ (.tmp 4) rfl w.heap.size rfl _ q.cells.toArray (0,0) _ HM.out Tryz.underlying35 rfl (by kernel_rfl) ?_))
      have HZN:=hid (HZ8.out w3)
      go_upto_region 7 with (first
       | (refine wpList_load_mid rfl _ (.tmp 29) rfl rb (off+k * 11) rfl (x.s.cells x.A x.c) _ HRG3.out Tryz.underlying50 rfl (by kernel_rfl) ?_)
       | (go_at_call 107;(with_reducible refine (HSY.out _ HK3.out).mono ?_);rintro e9 w4 ⟨A4,c4,rfl,hs4,hk4⟩;have HK4:=hid (HK3.out.then hk4);have HM4:=hid (HM3.out.keep hk4 (fun f=>f));have HZ4:=hid (HZ3.out.keep hk4 (fun f=>f));have HB8:=hid (HZ8.out w4);clear hk4)
       | (refine wpList_store_row rfl _ (.tmp 11) (.tmp 33) rfl w4.heap.size ((saySR x.s an).cells A4 c4).toArray rfl rfl _ _ HB8.out (by kernel_rfl) rfl (one_toArray (cl_one _ _ _)) ?_))
      have hk5:Same w4 ((w4.alloc (.cells #[.int .i64 0,.int .i64 0,.int .i64 0,.int .i64 0,.int .i64 0,.string ⟨#[]⟩,.int .i64 0,.slice none 0 0] 50)).setRow w4.heap.size ((saySR x.s an).cells A4 c4).toArray):=((Keep.refl (fun _=>False) w4).alloc _).trans (Keep.row _ _ _) (fun j hj e=>by have e2:j=w4.heap.size:=e;omega)
      have hb5:Blk ((w4.alloc (.cells #[.int .i64 0,.int .i64 0,.int .i64 0,.int .i64 0,.int .i64 0,.string ⟨#[]⟩,.int .i64 0,.slice none 0 0] 50)).setRow w4.heap.size ((saySR x.s an).cells A4 c4).toArray) w4.heap.size 50 ((saySR x.s an).cells A4 c4).toArray:=HB8.out.row _
      have HS4:=hid hs4
      generalize ((w4.alloc (.cells #[.int .i64 0,.int .i64 0,.int .i64 0,.int .i64 0,.int .i64 0,.string ⟨#[]⟩,.int .i64 0,.slice none 0 0] 50)).setRow w4.heap.size ((saySR x.s an).cells A4 c4).toArray)=w5 at *
      have HM5:=hid (HM4.out.keep hk5 (fun f=>f))
      have HZ5:=hid (HZ4.out.keep hk5 (fun f=>f))
      have HK5:=hid (HK4.out.then hk5)
      have HS5:=hid (HS4.out.same hk5)
      have K45:=hid hk5
      have HB5:=hid hb5
      clear hk5 z15 hb5
      have h35:=HK5.out
      have z15:w5.cell? ⟨w.heap.size,15,none⟩=some (.slice (some ⟨rb,off,none⟩) q.R.length q.lc):=(h35.cell (p:=⟨w.heap.size,15,none⟩) HM.out.lt (fun f=>f)).trans HZ15.out
      have HRG5:=hid (range_same HRX.out h35)
      have HZL:=hid (Blk.made w5 53 #[.int .i64 0,.int .i64 0,.int .i64 0,.int .i64 0,.int .i64 0,.string ⟨#[]⟩,.int .i64 0,.slice none 0 0,.int .i64 0,.slice none 0 0,.int .i64 0])
      go_upto_region 10 with (first
       | (refine wpList_load_mid rfl _ (.tmp 42) rfl rb (off+k * 11) rfl x.cells _ HRG5.out Tryz.underlying53 rfl (by kernel_rfl) ?_)
       | (refine wpList_store_row rfl _ (.tmp 13) (.tmp 43) rfl w5.heap.size x.cells.toArray rfl rfl _ _ HZL.out (by kernel_rfl) rfl (one_toArray (qa_one x)) ?_))
      have hL6:Blk ((w5.alloc (.cells #[.int .i64 0,.int .i64 0,.int .i64 0,.int .i64 0,.int .i64 0,.string ⟨#[]⟩,.int .i64 0,.slice none 0 0,.int .i64 0,.slice none 0 0,.int .i64 0] 53)).setRow w5.heap.size x.cells.toArray) w5.heap.size 53 x.cells.toArray:=HZL.out.row _
      have hk6:Same w5 ((w5.alloc (.cells #[.int .i64 0,.int .i64 0,.int .i64 0,.int .i64 0,.int .i64 0,.string ⟨#[]⟩,.int .i64 0,.slice none 0 0,.int .i64 0,.slice none 0 0,.int .i64 0] 53)).setRow w5.heap.size x.cells.toArray):=((Keep.refl (fun _=>False) w5).alloc _).trans (Keep.row _ _ _) (fun j hj e=>by have e2:j=w5.heap.size:=e;omega)
      obtain ⟨w6,hw6⟩:∃ x',x'=(w5.alloc (.cells #[.int .i64 0,.int .i64 0,.int .i64 0,.int .i64 0,.int .i64 0,.string ⟨#[]⟩,.int .i64 0,.slice none 0 0,.int .i64 0,.slice none 0 0,.int .i64 0] 53)).setRow w5.heap.size x.cells.toArray:=⟨_,rfl⟩
      rw [←hw6] at hL6 hk6 ⊢
      have HL6:=hid hL6
      have HM6:=hid (HM5.out.keep hk6 (fun f=>f))
      have HZ6:=hid (HZ5.out.keep hk6 (fun f=>f))
      have HB6:=hid (HB5.out.keep hk6 (fun f=>f))
      have HK6:=hid (HK5.out.then hk6)
      have HS6:=hid (HS5.out.same hk6)
      have K56:=hid hk6
      have HTH:Hid (w6.there w5.heap.size 0 ((saySR x.s an).cells A4 c4).toArray.size):=hid hL6.lineThere
      have hb58:=HB5.out.lt
      clear hL6 hk6 hw6 HRG5 HZL z15
      go_upto_region 11 with (first
       | (refine wpList_load_row rfl _ (.tmp 11) rfl w4.heap.size rfl _ ((saySR x.s an).cells A4 c4).toArray (0,0) _ HB6.out Tryz.underlying50 rfl (by kernel_rfl) ?_)
       | (refine wpList_store_mid rfl _ (.tmp 45) (.tmp 44) rfl w5.heap.size 0 ((saySR x.s an).cells A4 c4).toArray rfl rfl HTH.out (by kernel_rfl) (one_toArray (cl_one _ _ _)) ?_))
      have hkc:Keep (fun j=>j=w5.heap.size) w6 (w6.setCells w5.heap.size 0 ((saySR x.s an).cells A4 c4)):=Keep.cells _ _ _ _
      have h50:=HM5.out.lt
      have h51:=HZ5.out.lt
      have h45:=K45.out.size
      have hl7:Blk (w6.setCells w5.heap.size 0 ((saySR x.s an).cells A4 c4)) w5.heap.size 53 ({ x with s:=saySR x.s an,A:=A4,c:=c4 }:QA).cells.toArray:=HL6.out.line (saySR x.s an) A4 c4
      have hm7:=HM6.out.keep hkc (fun e=>by have e2:w.heap.size=w5.heap.size:=e;omega)
      have hz7:=HZ6.out.keep hkc (fun e=>by have e2:w.heap.size+1=w5.heap.size:=e;omega)
      have hk47:Same w4 (w6.setCells w5.heap.size 0 ((saySR x.s an).cells A4 c4)):=(K45.out.then K56.out).trans hkc (fun j hj e=>by have e2:j=w5.heap.size:=e;omega)
      have hs7:=HS4.out.same hk47
      have hk7:Same w (w6.setCells w5.heap.size 0 ((saySR x.s an).cells A4 c4)):=HWK.out _ (HK4.out.then hk47)
      obtain ⟨x2,hx2⟩:∃ x2:QA,x2={ x with s:=saySR x.s an,A:=A4,c:=c4 }:=⟨_,rfl⟩
      rw [←hx2] at hl7
      generalize (w6.setCells w5.heap.size 0 ((saySR x.s an).cells A4 c4))=w7 at *
      have hrx7:=HRL.out w7 hk7
      have hq7:QAt w7 (fun j=>Av j∨j=w.heap.size∨j=w.heap.size+1) x2:=by
       rw [hx2]
       exact ⟨hs7,(hrx7.lin x (List.mem_of_getElem? HXX.out)).src⟩
      have HXP:=hid (show x2.pt=({ x.pt with s:=sayS x.s an }:Ln) from by rw [hx2];first | rfl | (rw [←HSS.out];rfl))
      have HAV7:=hid (fun (W:World) (hk:w7.heap.size≤W.heap.size) (j:Nat) (hj:Av j∨j=w.heap.size∨j=w.heap.size+1)=>show j<W.heap.size from by
       have h1:=hm7.lt
       have h2:=hz7.lt
       rcases hj with hj | hj | hj
       ·exact Nat.lt_of_lt_of_le (HAV.out j hj) (Nat.le_trans hk7.size hk)
       ·omega
       ·omega)
      have HSE:=hid (set_any w7 (fun j=>Av j∨j=w.heap.size∨j=w.heap.size+1) (HAV7.out w7 (Nat.le_refl _)) q hrx7 hn k HKL.out x2 hq7)
      have HEV:=hid (fun (q3:QS) (W:World) (hr:RX W (fun j=>Av j∨j=w.heap.size∨j=w.heap.size+1) q3) (hs:w7.heap.size≤W.heap.size) (hp:q3.pt=q.pt.put k x2.pt)=>show Calls Tryz.prog 104 #[.agg q3.cells.toArray,.agg #[.int .i64 4,.int .i64 now,.int .i64 0,.int .i64 call,.int .i64 0,.int .i64 an,.int .i64 0,.int .i64 0,.slice none 0 0,.int .i64 0,.int .i64 0,.int .i64 0,.int .i64 0,.int .i64 0,.int .i64 0,.int .i64 0,.int .i64 0,.int .i64 0,.int .i64 0,.int .i64 0,.int .i64 0,.int .i64 0,.int .i64 0,.int .i64 0,.int .i64 0,.slice none 0 0,.slice none 0 0,.slice none 0 0]] W (QPost W (fun j=>Av j∨j=w.heap.size∨j=w.heap.size+1) q3.c (q3.pt.evt ⟨4,now,0,call,0,an⟩)) from
       event_any W _ (HAV7.out W hs) q3 hr (by rw [show q3.ev=q.ev from congrArg XS.ev hp];exact hne) ⟨4,now,0,call,0,an⟩)
      unfold QPost at HSE HEV
      have HM7:=hid hm7
      have HZ7:=hid hz7
      have HL7:=hid hl7
      have HK7:=hid hk7
      clear hkc hl7 hm7 hz7 hk47 hs7 hk7 hrx7 hq7 hx2 h50 h51 h45
      clear HL6 HM6 HZ6 HB6 HS6 HK6 HS4 HS5 HB5 HM5 HZ5 HTH
      go_upto_region 12 with (first
       | (refine wpList_load_row rfl _ (.tmp 4) rfl w.heap.size rfl _ q.cells.toArray (0,0) _ HM7.out Tryz.underlying35 rfl (by kernel_rfl) ?_)
       | (refine wpList_load_row rfl _ (.tmp 13) rfl w5.heap.size rfl _ x2.cells.toArray (0,0) _ HL7.out Tryz.underlying53 rfl (by kernel_rfl) ?_)
       | (go_at_call 108;(with_reducible refine HSE.out.mono ?_);rintro e w8 ⟨q3,rfl,hr8,hp8,hc8,hk8⟩
          have HR8:=hid hr8
          have HP8:=hid hp8
          have HC8:=hid hc8
          have HK8:=hid hk8
          have HM8:=hid (HM7.out.keep hk8 (fun f=>f))
          clear hr8 hp8 hc8 hk8)
       | (go_at_call 104;(with_reducible refine (HEV.out q3 w8 HR8.out HK8.out.size HP8.out).mono ?_);rintro e w9 ⟨q5,rfl,hr9,hp9,hc9,hk9⟩
          have HR9:=hid hr9
          have HP9:=hid hp9
          have HC9:=hid hc9
          have HK9:=hid hk9
          have HM9:=hid (HM8.out.keep hk9 (fun f=>f))
          clear hr9 hp9 hc9 hk9)
       | (refine wpList_store_row rfl _ (.tmp 4) (.tmp 54) rfl w.heap.size q5.cells.toArray rfl rfl _ _ HM9.out (by kernel_rfl) rfl (one_toArray (q_one q5)) ?_))
      have hM10:=HM9.out.row q5.cells.toArray
      have hkr:Keep (fun j=>j=w.heap.size) w9 (w9.setRow w.heap.size q5.cells.toArray):=Keep.row _ _ _
      have hk10:Same w (w9.setRow w.heap.size q5.cells.toArray):=((HK7.out.then HK8.out).then HK9.out).trans hkr (fun j hj e=>by have e2:j=w.heap.size:=e;omega)
      have hr10:=HR9.out.keep hkr (fun j _ e=>.inr (.inl e))
      have hz10:=((HZ7.out.keep HK8.out (fun f=>f)).keep HK9.out (fun f=>f)).keep hkr (fun e=>by have e2:w.heap.size+1=w.heap.size:=e;omega)
      have hs10:w7.heap.size≤(w9.setRow w.heap.size q5.cells.toArray).heap.size:=Nat.le_trans (HK8.out.then HK9.out).size hkr.size
      generalize (w9.setRow w.heap.size q5.cells.toArray)=w10 at *
      have hpt:q5.pt=(q.pt.put k x2.pt).evt ⟨4,now,0,call,0,an⟩:=by rw [HP9.out,HP8.out]
      obtain ⟨x5,hx5,hx5p⟩:=QS.line_at hpt (k:=k) (l:=x2.pt) (by show (q.pt.L.set k x2.pt)[k]? = _;rw [List.getElem?_set_self (by rw [HLEN.out];exact HKL.out)])
      have hR5:q5.R.length=q.R.length:=by have:=congrArg (fun X=>X.L.length) hpt;simpa [QS.pt,XS.evt,XS.put] using this
      have hO5:q5.out.length=q.out.length:=by have:=congrArg (fun X=>X.out.length) hpt;simpa [QS.pt,XS.evt,XS.put] using this
      have HOF:=hid (offerQ w10 (fun j=>Av j∨j=w.heap.size∨j=w.heap.size+1) (HAV7.out w10 hs10) q5 hr10 (by omega) (by omega) now HV.out k x5 hx5 (by rw [hx5p,HXP.out];exact HVL.out.to (say_vl HVL.out.vl an)))
      unfold QPost at HOF
      have HPT:=hid hpt
      have HX5:=hid hx5p
      have HM10:=hid hM10
      have HZ10:=hid hz10
      have HK10:=hid hk10
      clear hM10 hkr hk10 hr10 hz10 hs10 hpt hR5 hO5 hx5 hx5p HM7 HM8 HM9 HL7 HZ7 HR8 HR9 HEV HSE
      go_wp2_with (first
       | (refine wpList_load_row rfl _ (.tmp 4) rfl w.heap.size rfl _ q5.cells.toArray (0,0) _ HM10.out Tryz.underlying35 rfl (by kernel_rfl) ?_)
       | (go_at_call 109;(with_reducible refine HOF.out.mono ?_);rintro e w11 ⟨q6,rfl,hr11,hp11,hc11,hk11⟩
          have HR11:=hid hr11
          have HP11:=hid hp11
          have HC11:=hid hc11
          have HK11:=hid (HK10.out.then hk11)
          have HZ11:=hid (HZ10.out.keep hk11 (fun f=>f))
          clear hr11 hp11 hc11 hk11)
       | (refine wpList_store_row rfl _ (.tmp 8) (.tmp 58) rfl (w.heap.size+1) q6.cells.toArray rfl rfl _ _ HZ11.out (by kernel_rfl) rfl (one_toArray (q_one q6)) ?_))
      have hkr:Keep (fun j=>j=w.heap.size+1) w11 (w11.setRow (w.heap.size+1) q6.cells.toArray):=Keep.row _ _ _
      refine bodyPost_ret (results_cell_tmp rfl _ _ _ _ _ _ _ _ rfl rfl (HZ11.out.row _) Tryz.underlying35 rfl (by kernel_rfl)) rfl ⟨q6,by rw [HE.out,E0.out];rfl,?_,?_,by rw [HC11.out,HC9.out,HC8.out],HK11.out.trans hkr (fun j hj e=>by have e2:j=w.heap.size+1:=e;omega)⟩
      ·exact (HR11.out.keep hkr (fun j _ e=>.inr (.inr e))).wide (fun j _ hj=>.inl hj)
      ·rw [HP11.out,HPT.out,HX5.out,HXP.out,HSG.out E0.out]
     ·have d0:(sayE x.s an != 0)=true:=by simpa using e0
      have HS:=hid (show q.pt.ansS call an now=q.pt from by unfold XS.ansS;rw [HE.out,if_neg e0])
      clear e0
      go_enter Tryz.func61,Tryz.ntmps61
      go_upto_region 1 with fail
      try simp only [zero20] at hw1
      try rw [hw1]
      clear hw1
      go_upto_region 6 with (first
       | (go_at_call 101;(with_reducible refine (HVT.out _).mono ?_);rintro e1 w2 ⟨rfl,hw2⟩;subst hw2;rw [HV.out])
       | (go_at_call 16;(with_reducible refine (HFI.out _).mono ?_);rintro e1 w3 ⟨rfl,hk3⟩;have HK3:=hid hk3;have HM3:=hid (HM.out.keep hk3 (fun f=>f));have HZ3:=hid (HZ.out.keep hk3 (fun f=>f));have z15:=(hk3.cell (p:=⟨w.heap.size,15,none⟩) HM.out.lt (fun f=>f)).trans HZ15.out;have HRG3:=hid (range_same HRG.out hk3);clear hk3)
       | (refine wpList_load_row rfl _ (.tmp 4) rfl w.heap.size rfl _ q.cells.toArray (0,0) _ HM.out Tryz.underlying35 rfl (by kernel_rfl) ?_))
      have HZN:=hid (HZ8.out w3)
      go_upto_region 7 with (first
       | (refine wpList_load_mid rfl _ (.tmp 29) rfl rb (off+k * 11) rfl (x.s.cells x.A x.c) _ HRG3.out Tryz.underlying50 rfl (by kernel_rfl) ?_)
       | (go_at_call 107;(with_reducible refine (HSY.out _ HK3.out).mono ?_);rintro e9 w4 ⟨A4,c4,rfl,hs4,hk4⟩;have HK4:=hid (HK3.out.then hk4);have HM4:=hid (HM3.out.keep hk4 (fun f=>f));have HZ4:=hid (HZ3.out.keep hk4 (fun f=>f));have HB8:=hid (HZ8.out w4);clear hs4 hk4)
       | (refine wpList_store_row rfl _ (.tmp 11) (.tmp 33) rfl w4.heap.size ((saySR x.s an).cells A4 c4).toArray rfl rfl _ _ HB8.out (by kernel_rfl) rfl (one_toArray (cl_one _ _ _)) ?_))
      have hk5:Same w4 ((w4.alloc (.cells #[.int .i64 0,.int .i64 0,.int .i64 0,.int .i64 0,.int .i64 0,.string ⟨#[]⟩,.int .i64 0,.slice none 0 0] 50)).setRow w4.heap.size ((saySR x.s an).cells A4 c4).toArray):=((Keep.refl (fun _=>False) w4).alloc _).trans (Keep.row _ _ _) (fun j hj e=>by have e2:j=w4.heap.size:=e;omega)
      generalize ((w4.alloc (.cells #[.int .i64 0,.int .i64 0,.int .i64 0,.int .i64 0,.int .i64 0,.string ⟨#[]⟩,.int .i64 0,.slice none 0 0] 50)).setRow w4.heap.size ((saySR x.s an).cells A4 c4).toArray)=w5 at *
      have HM5:=hid (HM4.out.keep hk5 (fun f=>f))
      have HZ5:=hid (HZ4.out.keep hk5 (fun f=>f))
      have HK5:=hid (HK4.out.then hk5)
      clear hk5 z15
      go_wp2_with (first
       | (refine wpList_load_row rfl _ (.tmp 4) rfl w.heap.size rfl _ q.cells.toArray (0,0) _ HM5.out Tryz.underlying35 rfl (by kernel_rfl) ?_)
       | (refine wpList_store_row rfl _ (.tmp 8) (.tmp 37) rfl (w.heap.size+1) q.cells.toArray rfl rfl _ _ HZ5.out (by kernel_rfl) rfl (one_toArray (q_one q)) ?_))
      refine bodyPost_ret (results_cell_tmp rfl _ _ _ _ _ _ _ _ rfl rfl (HZ5.out.row _) Tryz.underlying35 rfl (by kernel_rfl)) rfl ?_
      rw [HE.out,HS.out]
      exact HSAME.out _ HK5.out _
set_option maxHeartbeats 8000000 in
set_option maxRecDepth 100000 in
theorem hangQ (w:World) (Av:Nat→Prop) (hAv:∀ i,Av i→i<w.heap.size) (q:QS) (h:RX w Av q) (hok:XOk q.pt) (hn:q.R.length≤1000) (hno:q.out.length≤900000) (hne:q.ev.length≤900000) (call now:Int):Calls Tryz.prog 63 #[.agg q.cells.toArray,.int .i64 call,.int .i64 now] w (QEPost w Av q.c (q.pt.hangS call now) (q.pt.hangE call now)):=by
 have hm:=(Blk.made w 35 q.cells.toArray).alloc (.cells zero20.toArray 35)
 have hz:=Blk.made (w.alloc (.cells q.cells.toArray 35)) 35 zero20.toArray
 have hw:Same w ((w.alloc (.cells q.cells.toArray 35)).alloc (.cells zero20.toArray 35)):=((Keep.refl _ _).alloc _).alloc _
 rw [World.size_alloc] at hz
 generalize hw1:((w.alloc (.cells q.cells.toArray 35)).alloc (.cells zero20.toArray 35))=w1 at *
 have hsz:w1.heap.size=w.heap.size+2:=by rw [←hw1];simp only [World.size_alloc]
 have HM:=hid hm
 have HZ:=hid hz
 have HW:=hid hw
 have HR:=hid h
 have HAV:=hid hAv
 have HSZ:=hid hsz
 have HOK:=hid hok
 have HVT:=hid (fun W=>show Calls Tryz.prog 101 #[.int .i64 now] W (fun e w'=>e=.returned (.bool (vN now 0))∧w'=W) from (rtick_any W now).mono (fun _ _ h=>⟨h.1,h.2.symm⟩))
 have HFI:=hid (fun W=>findQ W q hn call)
 have HSAME:=hid (fun (W:World) (hk:Same w1 W) (er:Int)=>show QEPost w Av q.c q.pt er (.returned (.tuple #[.agg q.cells.toArray,.int .i64 er])) (W.setRow (w.heap.size+1) q.cells.toArray) from by
  have hs:Same w (W.setRow (w.heap.size+1) q.cells.toArray):=(hw.then hk).trans (Keep.row _ _ _) (fun j hj e=>by have e2:j=w.heap.size+1:=e;omega)
  exact ⟨q,rfl,h.same hs,rfl,rfl,hs⟩)
 clear hm hz hw h hAv hok hsz
 cases hv:vN now 0 with
 | false =>
   have HV:=hid hv
   have HE:=hid (show q.pt.hangE call now=1 from by unfold XS.hangE;rw [if_neg (by simp [hv])])
   have HS:=hid (show q.pt.hangS call now=q.pt from by unfold XS.hangS;rw [HE.out,if_neg (by decide)])
   clear hv
   go_enter Tryz.func63,Tryz.ntmps63
   go_upto_region 1 with fail
   try simp only [zero20] at hw1
   try rw [hw1]
   clear hw1
   go_wp2_with (first
    | (go_at_call 101;(with_reducible refine (HVT.out _).mono ?_);rintro e1 w2 ⟨rfl,hw2⟩;subst hw2;rw [HV.out])
    | (refine wpList_load_row rfl _ (.tmp 3) rfl w.heap.size rfl _ q.cells.toArray (0,0) _ HM.out Tryz.underlying35 rfl (by kernel_rfl) ?_)
    | (refine wpList_store_row rfl _ (.tmp 6) (.tmp 15) rfl (w.heap.size+1) q.cells.toArray rfl rfl _ _ HZ.out (by kernel_rfl) rfl (one_toArray (q_one q)) ?_))
   refine bodyPost_ret (results_cell_tmp rfl _ _ _ _ _ _ _ _ rfl rfl (HZ.out.row _) Tryz.underlying35 rfl (by kernel_rfl)) rfl ?_
   rw [HE.out,HS.out]
   exact HSAME.out _ (Keep.refl _ _) 1
 | true =>
   have HV:=hid hv
   have hlen:q.pt.L.length=q.R.length:=by simp [QS.pt]
   have HLEN:=hid hlen
   cases hi:idx q.R.length call with
   | none =>
     have HE:=hid (show q.pt.hangE call now=4 from by unfold XS.hangE;rw [if_pos hv,hlen,hi])
     have HS:=hid (show q.pt.hangS call now=q.pt from by unfold XS.hangS;rw [HE.out,if_neg (by decide)])
     have HFI:=hid (fun W=>show Calls Tryz.prog 16 #[.agg q.cells.toArray,.int .i64 call] W (fun e w'=>e=.returned (.int .i64 (-1))∧Same W w') from by
      have:=HFI.out W
      unfold findI at this
      rw [hi] at this
      exact this)
     clear hv hi hlen
     go_enter Tryz.func63,Tryz.ntmps63
     go_upto_region 1 with fail
     try simp only [zero20] at hw1
     try rw [hw1]
     clear hw1
     go_upto_region 5 with (first
      | (go_at_call 101;(with_reducible refine (HVT.out _).mono ?_);rintro e1 w2 ⟨rfl,hw2⟩;subst hw2;rw [HV.out])
      | (go_at_call 16;(with_reducible refine (HFI.out _).mono ?_);rintro e1 w3 ⟨rfl,hk3⟩;have HK3:=hid hk3;have HM3:=hid (HM.out.keep hk3 (fun f=>f));have HZ3:=hid (HZ.out.keep hk3 (fun f=>f));clear hk3)
      | (refine wpList_load_row rfl _ (.tmp 3) rfl w.heap.size rfl _ q.cells.toArray (0,0) _ HM.out Tryz.underlying35 rfl (by kernel_rfl) ?_))
     go_wp2_with (first
      | (refine wpList_load_row rfl _ (.tmp 3) rfl w.heap.size rfl _ q.cells.toArray (0,0) _ HM3.out Tryz.underlying35 rfl (by kernel_rfl) ?_)
      | (refine wpList_store_row rfl _ (.tmp 6) (.tmp 21) rfl (w.heap.size+1) q.cells.toArray rfl rfl _ _ HZ3.out (by kernel_rfl) rfl (one_toArray (q_one q)) ?_))
     refine bodyPost_ret (results_cell_tmp rfl _ _ _ _ _ _ _ _ rfl rfl (HZ3.out.row _) Tryz.underlying35 rfl (by kernel_rfl)) rfl ?_
     rw [HE.out,HS.out]
     exact HSAME.out _ HK3.out 4
   | some k =>
     obtain ⟨h1,h2⟩:=idx_some hi
     obtain ⟨x,hx⟩:=get_some h2
     have hxp:q.pt.L[k]? = some x.pt:=by show (q.R.map QA.pt)[k]? = _;rw [List.getElem?_map,hx];rfl
     have HE:=hid (show q.pt.hangE call now=Go.Proofs.YtbjddfiledoaoaaGreat.hangE x.s now from by unfold XS.hangE;rw [if_pos hv,hlen,hi];simp only [hxp];rfl)
     have HFI:=hid (fun W=>show Calls Tryz.prog 16 #[.agg q.cells.toArray,.int .i64 call] W (fun e w'=>e=.returned (.int .i64 (k:Int))∧Same W w') from by
      have:=HFI.out W
      unfold findI at this
      rw [hi] at this
      exact this)
     have hvl:=(HOK.out.ln k x.pt hxp).1
     have HVL:=hid hvl
     have HXX:=hid hx
     have HII:=hid hi
     obtain ⟨rb,off,hLA,hrb,_,hrow⟩:=(HR.out.L.same HW.out).at_ (by omega)
     have hrg:=range_row hrow hx
     have HRG:=hid (show w1.rangeAt rb (off+k * 11) (x.s.cells x.A x.c) from fun j v hj=>hrg j v (by
      have hj8:j<8:=(List.getElem?_eq_some_iff.1 hj).1
      rw [show x.cells=x.s.cells x.A x.c++[.int .i64 x.d,.slice x.B x.src.length x.bc,.int .i64 x.last] from rfl,List.getElem?_append_left (by exact hj8)]
      exact hj))
     have HRX:=hid hrg
     have z15:w1.cell? ⟨w.heap.size,15,none⟩=some (.slice q.LA q.R.length q.lc):=HM.out.at_ 15
     rw [hLA] at z15
     have HZ15:=hid z15
     have hkk:(k:Int)<(q.R.length:Int):=by omega
     have hk0:(0:Int)≤(k:Int):=Int.natCast_nonneg _
     have HSY:=hid (fun W (hk:Same w1 W)=>show Calls Tryz.prog 111 #[.agg (x.s.cells x.A x.c).toArray,.int .i64 now] W (RefPost W (fun j=>Av j∨j=w.heap.size∨j=w.heap.size+1) (Go.Proofs.YtbjddfiledoaoaaGreat.hangS x.s now) (Go.Proofs.YtbjddfiledoaoaaGreat.hangE x.s now)) from
      rhang_any W _ x.A x.c x.s ((HR.out.lin x (List.mem_of_getElem? hx)).later (HW.out.then hk) (fun j hj=>by
       rcases hj with hj | hj | hj
       ·exact .inl hj
       ·exact .inr (by omega)
       ·exact .inr (by omega))).an now)
     unfold RefPost at HSY
     have HKL:=hid (show k<q.R.length from h2)
     have HSS:=hid (show Go.Proofs.YtbjddfiledoaoaaGreat.hangS x.s now=Go.Proofs.YtbjddfiledoaoaaGreat.hangS x.s now from rfl)
     have HSG:=hid (fun (e0:Go.Proofs.YtbjddfiledoaoaaGreat.hangE x.s now=0)=>show q.pt.hangS call now=((q.pt.put k { x.pt with s:=Go.Proofs.YtbjddfiledoaoaaGreat.hangS x.s now }).evt ⟨5,now,0,call,0,0⟩).offer k { x.pt with s:=Go.Proofs.YtbjddfiledoaoaaGreat.hangS x.s now } now from by
      unfold XS.hangS
      rw [HE.out,if_pos e0,hlen,hi]
      simp only [hxp]
      rfl)
     have HWK:=hid (fun (W:World) (hk:Same w1 W)=>HW.out.then hk)
     have HRL:=hid (fun (W:World) (hk:Same w W)=>show RX W (fun j=>Av j∨j=w.heap.size∨j=w.heap.size+1) q from HR.out.later hk (fun j hj=>by
      rcases hj with hj | hj | hj
      ·exact .inl hj
      ·exact .inr (by omega)
      ·exact .inr (by omega)))
     have HZ8:=hid (fun W=>Blk.made W 50 #[.int .i64 0,.int .i64 0,.int .i64 0,.int .i64 0,.int .i64 0,.string ⟨#[]⟩,.int .i64 0,.slice none 0 0])
     clear hv hi hlen h1 hx hxp hvl hLA hrow hrg z15
     by_cases e0:Go.Proofs.YtbjddfiledoaoaaGreat.hangE x.s now=0
     ·have d0:(Go.Proofs.YtbjddfiledoaoaaGreat.hangE x.s now != 0)=false:=by simp [e0]
      have E0:=hid e0
      clear e0
      go_enter Tryz.func63,Tryz.ntmps63
      go_upto_region 1 with fail
      try simp only [zero20] at hw1
      try rw [hw1]
      clear hw1
      go_upto_region 6 with (first
       | (go_at_call 101;(with_reducible refine (HVT.out _).mono ?_);rintro e1 w2 ⟨rfl,hw2⟩;subst hw2;rw [HV.out])
       | (go_at_call 16;(with_reducible refine (HFI.out _).mono ?_);rintro e1 w3 ⟨rfl,hk3⟩;have HK3:=hid hk3;have HM3:=hid (HM.out.keep hk3 (fun f=>f));have HZ3:=hid (HZ.out.keep hk3 (fun f=>f));have z15:=(hk3.cell (p:=⟨w.heap.size,15,none⟩) HM.out.lt (fun f=>f)).trans HZ15.out;have HRG3:=hid (range_same HRG.out hk3);clear hk3)
       | (refine wpList_load_row rfl _ (.tmp 3) rfl w.heap.size rfl _ q.cells.toArray (0,0) _ HM.out Tryz.underlying35 rfl (by kernel_rfl) ?_))
      have HZN:=hid (HZ8.out w3)
      go_upto_region 7 with (first
       | (refine wpList_load_mid rfl _ (.tmp 27) rfl rb (off+k * 11) rfl (x.s.cells x.A x.c) _ HRG3.out Tryz.underlying50 rfl (by kernel_rfl) ?_)
       | (go_at_call 111;(with_reducible refine (HSY.out _ HK3.out).mono ?_);rintro e9 w4 ⟨A4,c4,rfl,hs4,hk4⟩;have HK4:=hid (HK3.out.then hk4);have HM4:=hid (HM3.out.keep hk4 (fun f=>f));have HZ4:=hid (HZ3.out.keep hk4 (fun f=>f));have HB8:=hid (HZ8.out w4);clear hk4)
       | (refine wpList_store_row rfl _ (.tmp 9) (.tmp 31) rfl w4.heap.size ((Go.Proofs.YtbjddfiledoaoaaGreat.hangS x.s now).cells A4 c4).toArray rfl rfl _ _ HB8.out (by kernel_rfl) rfl (one_toArray (cl_one _ _ _)) ?_))
      have hk5:Same w4 ((w4.alloc (.cells #[.int .i64 0,.int .i64 0,.int .i64 0,.int .i64 0,.int .i64 0,.string ⟨#[]⟩,.int .i64 0,.slice none 0 0] 50)).setRow w4.heap.size ((Go.Proofs.YtbjddfiledoaoaaGreat.hangS x.s now).cells A4 c4).toArray):=((Keep.refl (fun _=>False) w4).alloc _).trans (Keep.row _ _ _) (fun j hj e=>by have e2:j=w4.heap.size:=e;omega)
      have hb5:Blk ((w4.alloc (.cells #[.int .i64 0,.int .i64 0,.int .i64 0,.int .i64 0,.int .i64 0,.string ⟨#[]⟩,.int .i64 0,.slice none 0 0] 50)).setRow w4.heap.size ((Go.Proofs.YtbjddfiledoaoaaGreat.hangS x.s now).cells A4 c4).toArray) w4.heap.size 50 ((Go.Proofs.YtbjddfiledoaoaaGreat.hangS x.s now).cells A4 c4).toArray:=HB8.out.row _
      have HS4:=hid hs4
      generalize ((w4.alloc (.cells #[.int .i64 0,.int .i64 0,.int .i64 0,.int .i64 0,.int .i64 0,.string ⟨#[]⟩,.int .i64 0,.slice none 0 0] 50)).setRow w4.heap.size ((Go.Proofs.YtbjddfiledoaoaaGreat.hangS x.s now).cells A4 c4).toArray)=w5 at *
      have HM5:=hid (HM4.out.keep hk5 (fun f=>f))
      have HZ5:=hid (HZ4.out.keep hk5 (fun f=>f))
      have HK5:=hid (HK4.out.then hk5)
      have HS5:=hid (HS4.out.same hk5)
      have K45:=hid hk5
      have HB5:=hid hb5
      clear hk5 z15 hb5
      have h35:=HK5.out
      have z15:w5.cell? ⟨w.heap.size,15,none⟩=some (.slice (some ⟨rb,off,none⟩) q.R.length q.lc):=(h35.cell (p:=⟨w.heap.size,15,none⟩) HM.out.lt (fun f=>f)).trans HZ15.out
      have HRG5:=hid (range_same HRX.out h35)
      have HZL:=hid (Blk.made w5 53 #[.int .i64 0,.int .i64 0,.int .i64 0,.int .i64 0,.int .i64 0,.string ⟨#[]⟩,.int .i64 0,.slice none 0 0,.int .i64 0,.slice none 0 0,.int .i64 0])
      go_upto_region 10 with (first
       | (refine wpList_load_mid rfl _ (.tmp 40) rfl rb (off+k * 11) rfl x.cells _ HRG5.out Tryz.underlying53 rfl (by kernel_rfl) ?_)
       | (refine wpList_store_row rfl _ (.tmp 11) (.tmp 41) rfl w5.heap.size x.cells.toArray rfl rfl _ _ HZL.out (by kernel_rfl) rfl (one_toArray (qa_one x)) ?_))
      have hL6:Blk ((w5.alloc (.cells #[.int .i64 0,.int .i64 0,.int .i64 0,.int .i64 0,.int .i64 0,.string ⟨#[]⟩,.int .i64 0,.slice none 0 0,.int .i64 0,.slice none 0 0,.int .i64 0] 53)).setRow w5.heap.size x.cells.toArray) w5.heap.size 53 x.cells.toArray:=HZL.out.row _
      have hk6:Same w5 ((w5.alloc (.cells #[.int .i64 0,.int .i64 0,.int .i64 0,.int .i64 0,.int .i64 0,.string ⟨#[]⟩,.int .i64 0,.slice none 0 0,.int .i64 0,.slice none 0 0,.int .i64 0] 53)).setRow w5.heap.size x.cells.toArray):=((Keep.refl (fun _=>False) w5).alloc _).trans (Keep.row _ _ _) (fun j hj e=>by have e2:j=w5.heap.size:=e;omega)
      obtain ⟨w6,hw6⟩:∃ x',x'=(w5.alloc (.cells #[.int .i64 0,.int .i64 0,.int .i64 0,.int .i64 0,.int .i64 0,.string ⟨#[]⟩,.int .i64 0,.slice none 0 0,.int .i64 0,.slice none 0 0,.int .i64 0] 53)).setRow w5.heap.size x.cells.toArray:=⟨_,rfl⟩
      rw [←hw6] at hL6 hk6 ⊢
      have HL6:=hid hL6
      have HM6:=hid (HM5.out.keep hk6 (fun f=>f))
      have HZ6:=hid (HZ5.out.keep hk6 (fun f=>f))
      have HB6:=hid (HB5.out.keep hk6 (fun f=>f))
      have HK6:=hid (HK5.out.then hk6)
      have HS6:=hid (HS5.out.same hk6)
      have K56:=hid hk6
      have HTH:Hid (w6.there w5.heap.size 0 ((Go.Proofs.YtbjddfiledoaoaaGreat.hangS x.s now).cells A4 c4).toArray.size):=hid hL6.lineThere
      have hb58:=HB5.out.lt
      clear hL6 hk6 hw6 HRG5 HZL z15
      go_upto_region 11 with (first
       | (refine wpList_load_row rfl _ (.tmp 9) rfl w4.heap.size rfl _ ((Go.Proofs.YtbjddfiledoaoaaGreat.hangS x.s now).cells A4 c4).toArray (0,0) _ HB6.out Tryz.underlying50 rfl (by kernel_rfl) ?_)
       | (refine wpList_store_mid rfl _ (.tmp 43) (.tmp 42) rfl w5.heap.size 0 ((Go.Proofs.YtbjddfiledoaoaaGreat.hangS x.s now).cells A4 c4).toArray rfl rfl HTH.out (by kernel_rfl) (one_toArray (cl_one _ _ _)) ?_))
      have hkc:Keep (fun j=>j=w5.heap.size) w6 (w6.setCells w5.heap.size 0 ((Go.Proofs.YtbjddfiledoaoaaGreat.hangS x.s now).cells A4 c4)):=Keep.cells _ _ _ _
      have h50:=HM5.out.lt
      have h51:=HZ5.out.lt
      have h45:=K45.out.size
      have hl7:Blk (w6.setCells w5.heap.size 0 ((Go.Proofs.YtbjddfiledoaoaaGreat.hangS x.s now).cells A4 c4)) w5.heap.size 53 ({ x with s:=Go.Proofs.YtbjddfiledoaoaaGreat.hangS x.s now,A:=A4,c:=c4 }:QA).cells.toArray:=HL6.out.line (Go.Proofs.YtbjddfiledoaoaaGreat.hangS x.s now) A4 c4
      have hm7:=HM6.out.keep hkc (fun e=>by have e2:w.heap.size=w5.heap.size:=e;omega)
      have hz7:=HZ6.out.keep hkc (fun e=>by have e2:w.heap.size+1=w5.heap.size:=e;omega)
      have hk47:Same w4 (w6.setCells w5.heap.size 0 ((Go.Proofs.YtbjddfiledoaoaaGreat.hangS x.s now).cells A4 c4)):=(K45.out.then K56.out).trans hkc (fun j hj e=>by have e2:j=w5.heap.size:=e;omega)
      have hs7:=HS4.out.same hk47
      have hk7:Same w (w6.setCells w5.heap.size 0 ((Go.Proofs.YtbjddfiledoaoaaGreat.hangS x.s now).cells A4 c4)):=HWK.out _ (HK4.out.then hk47)
      obtain ⟨x2,hx2⟩:∃ x2:QA,x2={ x with s:=Go.Proofs.YtbjddfiledoaoaaGreat.hangS x.s now,A:=A4,c:=c4 }:=⟨_,rfl⟩
      rw [←hx2] at hl7
      generalize (w6.setCells w5.heap.size 0 ((Go.Proofs.YtbjddfiledoaoaaGreat.hangS x.s now).cells A4 c4))=w7 at *
      have hrx7:=HRL.out w7 hk7
      have hq7:QAt w7 (fun j=>Av j∨j=w.heap.size∨j=w.heap.size+1) x2:=by
       rw [hx2]
       exact ⟨hs7,(hrx7.lin x (List.mem_of_getElem? HXX.out)).src⟩
      have HXP:=hid (show x2.pt=({ x.pt with s:=Go.Proofs.YtbjddfiledoaoaaGreat.hangS x.s now }:Ln) from by rw [hx2];first | rfl | (rw [←HSS.out];rfl))
      have HAV7:=hid (fun (W:World) (hk:w7.heap.size≤W.heap.size) (j:Nat) (hj:Av j∨j=w.heap.size∨j=w.heap.size+1)=>show j<W.heap.size from by
       have h1:=hm7.lt
       have h2:=hz7.lt
       rcases hj with hj | hj | hj
       ·exact Nat.lt_of_lt_of_le (HAV.out j hj) (Nat.le_trans hk7.size hk)
       ·omega
       ·omega)
      have HSE:=hid (set_any w7 (fun j=>Av j∨j=w.heap.size∨j=w.heap.size+1) (HAV7.out w7 (Nat.le_refl _)) q hrx7 hn k HKL.out x2 hq7)
      have HEV:=hid (fun (q3:QS) (W:World) (hr:RX W (fun j=>Av j∨j=w.heap.size∨j=w.heap.size+1) q3) (hs:w7.heap.size≤W.heap.size) (hp:q3.pt=q.pt.put k x2.pt)=>show Calls Tryz.prog 104 #[.agg q3.cells.toArray,.agg #[.int .i64 5,.int .i64 now,.int .i64 0,.int .i64 call,.int .i64 0,.int .i64 0,.int .i64 0,.int .i64 0,.slice none 0 0,.int .i64 0,.int .i64 0,.int .i64 0,.int .i64 0,.int .i64 0,.int .i64 0,.int .i64 0,.int .i64 0,.int .i64 0,.int .i64 0,.int .i64 0,.int .i64 0,.int .i64 0,.int .i64 0,.int .i64 0,.int .i64 0,.slice none 0 0,.slice none 0 0,.slice none 0 0]] W (QPost W (fun j=>Av j∨j=w.heap.size∨j=w.heap.size+1) q3.c (q3.pt.evt ⟨5,now,0,call,0,0⟩)) from
       event_any W _ (HAV7.out W hs) q3 hr (by rw [show q3.ev=q.ev from congrArg XS.ev hp];exact hne) ⟨5,now,0,call,0,0⟩)
      unfold QPost at HSE HEV
      have HM7:=hid hm7
      have HZ7:=hid hz7
      have HL7:=hid hl7
      have HK7:=hid hk7
      clear hkc hl7 hm7 hz7 hk47 hs7 hk7 hrx7 hq7 hx2 h50 h51 h45
      clear HL6 HM6 HZ6 HB6 HS6 HK6 HS4 HS5 HB5 HM5 HZ5 HTH
      go_upto_region 12 with (first
       | (refine wpList_load_row rfl _ (.tmp 3) rfl w.heap.size rfl _ q.cells.toArray (0,0) _ HM7.out Tryz.underlying35 rfl (by kernel_rfl) ?_)
       | (refine wpList_load_row rfl _ (.tmp 11) rfl w5.heap.size rfl _ x2.cells.toArray (0,0) _ HL7.out Tryz.underlying53 rfl (by kernel_rfl) ?_)
       | (go_at_call 108;(with_reducible refine HSE.out.mono ?_);rintro e w8 ⟨q3,rfl,hr8,hp8,hc8,hk8⟩
          have HR8:=hid hr8
          have HP8:=hid hp8
          have HC8:=hid hc8
          have HK8:=hid hk8
          have HM8:=hid (HM7.out.keep hk8 (fun f=>f))
          clear hr8 hp8 hc8 hk8)
       | (go_at_call 104;(with_reducible refine (HEV.out q3 w8 HR8.out HK8.out.size HP8.out).mono ?_);rintro e w9 ⟨q5,rfl,hr9,hp9,hc9,hk9⟩
          have HR9:=hid hr9
          have HP9:=hid hp9
          have HC9:=hid hc9
          have HK9:=hid hk9
          have HM9:=hid (HM8.out.keep hk9 (fun f=>f))
          clear hr9 hp9 hc9 hk9)
       | (refine wpList_store_row rfl _ (.tmp 3) (.tmp 51) rfl w.heap.size q5.cells.toArray rfl rfl _ _ HM9.out (by kernel_rfl) rfl (one_toArray (q_one q5)) ?_))
      have hM10:=HM9.out.row q5.cells.toArray
      have hkr:Keep (fun j=>j=w.heap.size) w9 (w9.setRow w.heap.size q5.cells.toArray):=Keep.row _ _ _
      have hk10:Same w (w9.setRow w.heap.size q5.cells.toArray):=((HK7.out.then HK8.out).then HK9.out).trans hkr (fun j hj e=>by have e2:j=w.heap.size:=e;omega)
      have hr10:=HR9.out.keep hkr (fun j _ e=>.inr (.inl e))
      have hz10:=((HZ7.out.keep HK8.out (fun f=>f)).keep HK9.out (fun f=>f)).keep hkr (fun e=>by have e2:w.heap.size+1=w.heap.size:=e;omega)
      have hs10:w7.heap.size≤(w9.setRow w.heap.size q5.cells.toArray).heap.size:=Nat.le_trans (HK8.out.then HK9.out).size hkr.size
      generalize (w9.setRow w.heap.size q5.cells.toArray)=w10 at *
      have hpt:q5.pt=(q.pt.put k x2.pt).evt ⟨5,now,0,call,0,0⟩:=by rw [HP9.out,HP8.out]
      obtain ⟨x5,hx5,hx5p⟩:=QS.line_at hpt (k:=k) (l:=x2.pt) (by show (q.pt.L.set k x2.pt)[k]? = _;rw [List.getElem?_set_self (by rw [HLEN.out];exact HKL.out)])
      have hR5:q5.R.length=q.R.length:=by have:=congrArg (fun X=>X.L.length) hpt;simpa [QS.pt,XS.evt,XS.put] using this
      have hO5:q5.out.length=q.out.length:=by have:=congrArg (fun X=>X.out.length) hpt;simpa [QS.pt,XS.evt,XS.put] using this
      have HOF:=hid (offerQ w10 (fun j=>Av j∨j=w.heap.size∨j=w.heap.size+1) (HAV7.out w10 hs10) q5 hr10 (by omega) (by omega) now HV.out k x5 hx5 (by rw [hx5p,HXP.out];exact HVL.out.to (hang_vl HVL.out.vl now)))
      unfold QPost at HOF
      have HPT:=hid hpt
      have HX5:=hid hx5p
      have HM10:=hid hM10
      have HZ10:=hid hz10
      have HK10:=hid hk10
      clear hM10 hkr hk10 hr10 hz10 hs10 hpt hR5 hO5 hx5 hx5p HM7 HM8 HM9 HL7 HZ7 HR8 HR9 HEV HSE
      go_wp2_with (first
       | (refine wpList_load_row rfl _ (.tmp 3) rfl w.heap.size rfl _ q5.cells.toArray (0,0) _ HM10.out Tryz.underlying35 rfl (by kernel_rfl) ?_)
       | (go_at_call 109;(with_reducible refine HOF.out.mono ?_);rintro e w11 ⟨q6,rfl,hr11,hp11,hc11,hk11⟩
          have HR11:=hid hr11
          have HP11:=hid hp11
          have HC11:=hid hc11
          have HK11:=hid (HK10.out.then hk11)
          have HZ11:=hid (HZ10.out.keep hk11 (fun f=>f))
          clear hr11 hp11 hc11 hk11)
       | (refine wpList_store_row rfl _ (.tmp 6) (.tmp 55) rfl (w.heap.size+1) q6.cells.toArray rfl rfl _ _ HZ11.out (by kernel_rfl) rfl (one_toArray (q_one q6)) ?_))
      have hkr:Keep (fun j=>j=w.heap.size+1) w11 (w11.setRow (w.heap.size+1) q6.cells.toArray):=Keep.row _ _ _
      refine bodyPost_ret (results_cell_tmp rfl _ _ _ _ _ _ _ _ rfl rfl (HZ11.out.row _) Tryz.underlying35 rfl (by kernel_rfl)) rfl ⟨q6,by rw [HE.out,E0.out];rfl,?_,?_,by rw [HC11.out,HC9.out,HC8.out],HK11.out.trans hkr (fun j hj e=>by have e2:j=w.heap.size+1:=e;omega)⟩
      ·exact (HR11.out.keep hkr (fun j _ e=>.inr (.inr e))).wide (fun j _ hj=>.inl hj)
      ·rw [HP11.out,HPT.out,HX5.out,HXP.out,HSG.out E0.out]
     ·have d0:(Go.Proofs.YtbjddfiledoaoaaGreat.hangE x.s now != 0)=true:=by simpa using e0
      have HS:=hid (show q.pt.hangS call now=q.pt from by unfold XS.hangS;rw [HE.out,if_neg e0])
      clear e0
      go_enter Tryz.func63,Tryz.ntmps63
      go_upto_region 1 with fail
      try simp only [zero20] at hw1
      try rw [hw1]
      clear hw1
      go_upto_region 6 with (first
       | (go_at_call 101;(with_reducible refine (HVT.out _).mono ?_);rintro e1 w2 ⟨rfl,hw2⟩;subst hw2;rw [HV.out])
       | (go_at_call 16;(with_reducible refine (HFI.out _).mono ?_);rintro e1 w3 ⟨rfl,hk3⟩;have HK3:=hid hk3;have HM3:=hid (HM.out.keep hk3 (fun f=>f));have HZ3:=hid (HZ.out.keep hk3 (fun f=>f));have z15:=(hk3.cell (p:=⟨w.heap.size,15,none⟩) HM.out.lt (fun f=>f)).trans HZ15.out;have HRG3:=hid (range_same HRG.out hk3);clear hk3)
       | (refine wpList_load_row rfl _ (.tmp 3) rfl w.heap.size rfl _ q.cells.toArray (0,0) _ HM.out Tryz.underlying35 rfl (by kernel_rfl) ?_))
      have HZN:=hid (HZ8.out w3)
      go_upto_region 7 with (first
       | (refine wpList_load_mid rfl _ (.tmp 27) rfl rb (off+k * 11) rfl (x.s.cells x.A x.c) _ HRG3.out Tryz.underlying50 rfl (by kernel_rfl) ?_)
       | (go_at_call 111;(with_reducible refine (HSY.out _ HK3.out).mono ?_);rintro e9 w4 ⟨A4,c4,rfl,hs4,hk4⟩;have HK4:=hid (HK3.out.then hk4);have HM4:=hid (HM3.out.keep hk4 (fun f=>f));have HZ4:=hid (HZ3.out.keep hk4 (fun f=>f));have HB8:=hid (HZ8.out w4);clear hs4 hk4)
       | (refine wpList_store_row rfl _ (.tmp 9) (.tmp 31) rfl w4.heap.size ((Go.Proofs.YtbjddfiledoaoaaGreat.hangS x.s now).cells A4 c4).toArray rfl rfl _ _ HB8.out (by kernel_rfl) rfl (one_toArray (cl_one _ _ _)) ?_))
      have hk5:Same w4 ((w4.alloc (.cells #[.int .i64 0,.int .i64 0,.int .i64 0,.int .i64 0,.int .i64 0,.string ⟨#[]⟩,.int .i64 0,.slice none 0 0] 50)).setRow w4.heap.size ((Go.Proofs.YtbjddfiledoaoaaGreat.hangS x.s now).cells A4 c4).toArray):=((Keep.refl (fun _=>False) w4).alloc _).trans (Keep.row _ _ _) (fun j hj e=>by have e2:j=w4.heap.size:=e;omega)
      generalize ((w4.alloc (.cells #[.int .i64 0,.int .i64 0,.int .i64 0,.int .i64 0,.int .i64 0,.string ⟨#[]⟩,.int .i64 0,.slice none 0 0] 50)).setRow w4.heap.size ((Go.Proofs.YtbjddfiledoaoaaGreat.hangS x.s now).cells A4 c4).toArray)=w5 at *
      have HM5:=hid (HM4.out.keep hk5 (fun f=>f))
      have HZ5:=hid (HZ4.out.keep hk5 (fun f=>f))
      have HK5:=hid (HK4.out.then hk5)
      clear hk5 z15
      go_wp2_with (first
       | (refine wpList_load_row rfl _ (.tmp 3) rfl w.heap.size rfl _ q.cells.toArray (0,0) _ HM5.out Tryz.underlying35 rfl (by kernel_rfl) ?_)
       | (refine wpList_store_row rfl _ (.tmp 6) (.tmp 35) rfl (w.heap.size+1) q.cells.toArray rfl rfl _ _ HZ5.out (by kernel_rfl) rfl (one_toArray (q_one q)) ?_))
      refine bodyPost_ret (results_cell_tmp rfl _ _ _ _ _ _ _ _ rfl rfl (HZ5.out.row _) Tryz.underlying35 rfl (by kernel_rfl)) rfl ?_
      rw [HE.out,HS.out]
      exact HSAME.out _ HK5.out _
end Go.Proofs.YtbjddfiledoaoaaGreat

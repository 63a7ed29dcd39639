import Derived.Test.YtbjddfiledoaoaaGreatYE
namespace Go.Proofs.YtbjddfiledoaoaaGreat
open Go.RowKit
def TI (w wr:World) (A:Nat→Prop) (c:CF) (X:XS):Prop:=∃ q:QS,RX wr A q∧q.pt=X∧q.c=c∧Blk wr w.heap.size 35 q.cells.toArray∧Blk wr (w.heap.size+1) 35 zero20.toArray∧Same w wr
theorem TI.same {w wr wr':World} {A:Nat→Prop} {c:CF} {X:XS} (h:TI w wr A c X) (hk:Same wr wr'):TI w wr' A c X:=by
 obtain ⟨q,h1,h2,h3,h4,h5,h6⟩:=h
 exact ⟨q,h1.same hk,h2,h3,h4.keep hk (fun f=>f),h5.keep hk (fun f=>f),h6.then hk⟩
set_option maxHeartbeats 8000000 in
set_option maxRecDepth 100000 in
theorem tickQ (w:World) (Av:Nat→Prop) (hAv:∀ i,Av i→i<w.heap.size) (q:QS) (h:RX w Av q) (hok:XOk q.pt) (hn:q.R.length≤1000) (hno:q.out.length≤800000) (now:Int):Calls Tryz.prog 66 #[.agg q.cells.toArray,.int .i64 now] w (QPost w Av q.c (q.pt.tick now)):=by
 have hm:=(Blk.made w 35 q.cells.toArray).alloc (.cells zero20.toArray 35)
 have hz:=Blk.made (w.alloc (.cells q.cells.toArray 35)) 35 zero20.toArray
 have hw:Same w ((w.alloc (.cells q.cells.toArray 35)).alloc (.cells zero20.toArray 35)):=((Keep.refl _ _).alloc _).alloc _
 rw [World.size_alloc] at hz
 generalize hw1:((w.alloc (.cells q.cells.toArray 35)).alloc (.cells zero20.toArray 35))=w1 at *
 have hsz:w1.heap.size=w.heap.size+2:=by rw [←hw1];simp only [World.size_alloc]
 have HVT:=hid (fun W=>show Calls Tryz.prog 101 #[.int .i64 now] W (fun e w'=>e=.returned (.bool (vN now 0))∧W=w') from rtick_any W now)
 have HT0:=hid (show TI w w1 (AvN w Av w1) q.c q.pt from ⟨q,h.later hw AvN.or,rfl,rfl,hm,hz,hw⟩)
 have HAV:=hid (AvN.lt (W:=w1) hAv hw.size)
 have HSZ:=hid hsz
 have HFIN:=hid (fun (qj:QS) (W:World) (X:XS) (hr:RX W (AvN w Av w1) qj) (hp:qj.pt=X) (hc:qj.c=q.c) (hk:Same w W)=>show QPost w Av q.c X (.returned (.agg qj.cells.toArray)) (W.setRow (w.heap.size+1) qj.cells.toArray) from by
  have hkr:Keep (fun j=>j=w.heap.size+1) W (W.setRow (w.heap.size+1) qj.cells.toArray):=Keep.row _ _ _
  exact ⟨qj,rfl,(hr.keep hkr (fun j _ e=>.inr (by have e2:j=w.heap.size+1:=e;omega))).wide (fun j _ hj=>.inl hj),hp,hc,hk.trans hkr (fun j hj e=>by have e2:j=w.heap.size+1:=e;omega)⟩)
 have HLE:=hid (show w1.heap.size≤w1.heap.size from Nat.le_refl _)
 have HEQ:=hid (fun j=>tickN_eq q.pt now j)
 have HLN:=hid (fun j=>tickN_len q.pt now j)
 have hnl:q.pt.L.length=q.R.length:=by simp [QS.pt]
 have hol:q.pt.out.length=q.out.length:=by simp [QS.pt]
 have HNL:=hid hnl
 have HOL:=hid hol
 have HRT:=hid (show 0≤q.c.h5∧q.c.h5≤1099511627776 from hok.rt)
 cases hv:vN now 0 with
 | false =>
   have HV:=hid hv
   have HX:=hid (show q.pt.tick now=q.pt from by unfold XS.tick;rw [if_neg (by simp [hv])])
   clear hm hz hw h hAv hok hsz hnl hol hv
   go_enter Tryz.func66,Tryz.ntmps66
   go_upto_region 1 with fail
   try simp only [zero20] at hw1
   try rw [hw1]
   clear hw1
   go_wp2_with fail
   go_loopw [5] (fun i wr=>i=.int .i64 0∧Hid (TI w wr (AvN w Av w1) q.c q.pt)) (fun _ _=>0)
   case atStart=>exact ⟨rfl,HT0⟩
   case round =>
    obtain ⟨rfl,HI⟩:=hrel
    obtain ⟨qj,hr,hp,hc,hM,hZ,hk⟩:=HI.out
    have z15:wr.cell? ⟨w.heap.size,15,none⟩=some (.slice qj.LA qj.R.length qj.lc):=hM.at_ 15
    have HM:=hid hM
    have HZ:=hid hZ
    have HF:=hid (HFIN.out qj wr _ hr hp hc hk)
    clear hr hp hc hM hZ hk HI HT0
    by_cases h0:(0:Int)<(qj.R.length:Int)
    ·go_upto_region 6 with (go_at_call 101;(with_reducible refine (HVT.out _).mono ?_);rintro e1 w2 ⟨rfl,rfl⟩;rw [HV.out])
     go_wp2_with (first
      | (refine wpList_load_row rfl _ (.tmp 2) rfl w.heap.size rfl _ qj.cells.toArray (0,0) _ HM.out Tryz.underlying35 rfl (by kernel_rfl) ?_)
      | (refine wpList_store_row rfl _ (.tmp 4) (.tmp 44) rfl (w.heap.size+1) qj.cells.toArray rfl rfl _ _ HZ.out (by kernel_rfl) rfl (one_toArray (q_one qj)) ?_))
     refine bodyPost_ret (results_cell_row rfl _ _ _ _ _ _ _ rfl (HZ.out.row _) Tryz.underlying35 rfl (by kernel_rfl)) rfl ?_
     rw [HX.out]
     exact HF.out
    ·have h00:qj.R.length=0:=by omega
     rw [h00] at z15
     clear h0 h00
     go_upto_region 6 with fail
     go_wp2_with (first
      | (refine wpList_load_row rfl _ (.tmp 2) rfl w.heap.size rfl _ qj.cells.toArray (0,0) _ HM.out Tryz.underlying35 rfl (by kernel_rfl) ?_)
      | (refine wpList_store_row rfl _ (.tmp 4) (.tmp 44) rfl (w.heap.size+1) qj.cells.toArray rfl rfl _ _ HZ.out (by kernel_rfl) rfl (one_toArray (q_one qj)) ?_))
     refine bodyPost_ret (results_cell_row rfl _ _ _ _ _ _ _ rfl (HZ.out.row _) Tryz.underlying35 rfl (by kernel_rfl)) rfl ?_
     rw [HX.out]
     exact HF.out
 | true =>
   have HV:=hid hv
   have HTO:=hid (fun j=>tickN_ok hok hv j)
   have HX:=hid (show q.pt.tick now=q.pt.tickN now q.R.length from by unfold XS.tick;rw [if_pos hv,hnl])
   have HVV:=hid (vN_true hv)
   clear hm hz hw h hAv hok hsz hnl hol hv
   go_enter Tryz.func66,Tryz.ntmps66
   go_upto_region 1 with fail
   try simp only [zero20] at hw1
   try rw [hw1]
   clear hw1
   go_wp2_with fail
   go_loopw [5] (fun i wr=>∃ j:Nat,j≤q.R.length∧i=.int .i64 j∧Hid (w1.heap.size≤wr.heap.size∧TI w wr (AvN w Av w1) q.c (q.pt.tickN now j))) (fun i _=>q.R.length - (RowKit.intOf i).toNat)
   case atStart=>exact ⟨0,Nat.zero_le _,rfl,hid ⟨Nat.le_refl _,HT0.out⟩⟩
   case round =>
    obtain ⟨j,hj,rfl,HI⟩:=hrel
    obtain ⟨qj,hr,hp,hc,hM,hZ,hk⟩:=HI.out.2
    have hR:qj.R.length=q.R.length:=by
     have h1:=congrArg (fun X=>X.L.length) hp
     have h2:=(HEQ.out j).n
     have h3:=HNL.out
     simp only [QS.pt,List.length_map] at h1
     simp only [QS.pt,List.length_map] at h2
     have h4:(q.R.map QA.pt).length=q.R.length:=by simp
     omega
    have z15:wr.cell? ⟨w.heap.size,15,none⟩=some (.slice qj.LA qj.R.length qj.lc):=hM.at_ 15
    rw [hR] at z15
    have HM:=hid hM
    have HZ:=hid hZ
    have hj0:(0:Int)≤(j:Int):=Int.natCast_nonneg _
    by_cases hjn:j<q.R.length
    ·have hj1:(j:Int)<(q.R.length:Int):=by omega
     obtain ⟨x,hx⟩:=get_some (l:=qj.R) (k:=j) (by omega)
     obtain ⟨rb,off,hLA,hrb,_,hrow⟩:=hr.L.at_ (by omega)
     rw [hLA] at z15
     have hrg:=range_row hrow hx
     have zs:wr.cell? ⟨rb,off+j * 11+1,none⟩=some (.int .i64 x.s.st):=hrg 1 _ rfl
     have zl:wr.cell? ⟨rb,off+j * 11+10,none⟩=some (.int .i64 x.last):=hrg 10 _ rfl
     have z10:wr.cell? ⟨w.heap.size,10,none⟩=some (.int .i64 q.c.h5):=by rw [←hc];exact hM.at_ 10
     have hL:(q.pt.tickN now j).L[j]? = some x.pt:=by
      rw [←hp]
      show (qj.R.map QA.pt)[j]? = _
      rw [List.getElem?_map,hx];rfl
     have hokx:=(HTO.out j).ln j x.pt hL
     have hST:stepT now (q.pt.tickN now j) j=if x.s.st≠5∧2 * q.c.h5≤now - x.last then (q.pt.tickN now j).offer j x.pt now else q.pt.tickN now j:=by
      unfold stepT
      rw [hL]
      have:(q.pt.tickN now j).rt=q.c.h5:=(HEQ.out j).rt
      simp only [this];rfl
     obtain ⟨hn0,hn1⟩:=HVV.out
     obtain ⟨hr0,hr1⟩:=HRT.out
     have hla0:0≤x.last:=hokx.1.la.1
     have hla1:x.last≤1099511627776:=hokx.1.la.2
     have hqo:qj.out.length≤900000:=by
      have h1:=congrArg (fun X=>X.out.length) hp
      have h2:=(HLN.out j).1
      have h3:=HOL.out
      simp only [QS.pt,List.length_map] at h1
      simp only [QS.pt,List.length_map] at h2
      omega
     have HOF:=hid (fun W (hkk:Same wr W)=>offerQ W (AvN w Av w1) (fun i hi=>Nat.lt_of_lt_of_le (HAV.out i hi) (Nat.le_trans HI.out.1 hkk.size)) qj (hr.same hkk) (by omega) hqo now HV.out j x hx hokx.1)
     unfold QPost at HOF
     have HSU:=hid hST
     have HSAME:=hid (fun (W:World) (hkk:Same wr W) (he:stepT now (q.pt.tickN now j) j=q.pt.tickN now j)=>show w1.heap.size≤W.heap.size∧TI w W (AvN w Av w1) q.c (q.pt.tickN now (j+1)) from by
      rw [tickN_succ,he]
      exact ⟨Nat.le_trans HI.out.1 hkk.size,HI.out.2.same hkk⟩)
     have HC:=hid hc
     have HP:=hid hp
     have HK:=hid hk
     have HS1:=hid HI.out.1
     clear hr hp hc hM hZ hk HI HT0 hx hLA hrb hrow hrg hL hokx hST hqo hR
     by_cases s5:x.s.st=5
     ·have d5:(x.s.st != 5)=false:=by simp [s5]
      have HF:=hid (show stepT now (q.pt.tickN now j) j=q.pt.tickN now j from by rw [HSU.out,if_neg (by rw [s5];simp)])
      clear s5
      go_upto_region 4 with (go_at_call 101;(with_reducible refine (HVT.out _).mono ?_);rintro e1 w2 ⟨rfl,rfl⟩;rw [HV.out])
      go_quiet (fail)
      go_wp2_with fail
      go_roundw
      case rel=>first | exact ⟨j+1,by omega,by go_num,hid (HSAME.out _ ((Keep.refl _ _).drewN _) HF.out)⟩ | ((repeat apply Exists.intro);refine And.intro ?_ rfl;exact ⟨j+1,by omega,by go_num,hid (HSAME.out _ ((Keep.refl _ _).drewN _) HF.out)⟩)
      case measure=>simp [RowKit.intOf];omega
     ·have d5:(x.s.st != 5)=true:=by simpa using s5
      by_cases sd:2 * q.c.h5≤now - x.last
      ·have dd:decide (2 * q.c.h5≤now - x.last)=true:=decide_eq_true sd
       have HF:=hid (show stepT now (q.pt.tickN now j) j=(q.pt.tickN now j).offer j x.pt now from by rw [HSU.out,if_pos ⟨s5,sd⟩])
       clear s5 sd
       go_upto_region 4 with (go_at_call 101;(with_reducible refine (HVT.out _).mono ?_);rintro e1 w2 ⟨rfl,rfl⟩;rw [HV.out])
       go_quiet (fail)
       clear z15 zs zl z10
       generalize hwd:wr.drewN _=wd
       have hkd:Same wr wd:=by rw [←hwd];exact (Keep.refl _ _).drewN _
       clear hwd
       have HMd:=hid (HM.out.keep hkd (fun f=>f))
       have HZd:=hid (HZ.out.keep hkd (fun f=>f))
       have HKd:=hid (HK.out.then hkd)
       have HOd:=hid (HOF.out wd hkd)
       have HSd:=hid (Nat.le_trans HS1.out hkd.size)
       clear hkd
       go_wp2_with (first
        | (refine wpList_load_row rfl _ (.tmp 2) rfl w.heap.size rfl _ qj.cells.toArray (0,0) _ HMd.out Tryz.underlying35 rfl (by kernel_rfl) ?_)
        | (go_at_call 109;(with_reducible refine HOd.out.mono ?_);rintro e w3 ⟨q3,rfl,hr3,hp3,hc3,hk3⟩
           have HR3:=hid hr3
           have HP3:=hid hp3
           have HC3:=hid hc3
           have HK3:=hid hk3
           have HM3:=hid (HMd.out.keep hk3 (fun f=>f))
           clear hr3 hp3 hc3 hk3)
        | (refine wpList_store_row rfl _ (.tmp 2) (.tmp 43) rfl w.heap.size q3.cells.toArray rfl rfl _ _ HM3.out (by kernel_rfl) rfl (one_toArray (q_one q3)) ?_))
       have HNX:=hid (show w1.heap.size≤(w3.setRow w.heap.size q3.cells.toArray).heap.size∧TI w (w3.setRow w.heap.size q3.cells.toArray) (AvN w Av w1) q.c (q.pt.tickN now (j+1)) from by
        have hkr:Keep (fun j=>j=w.heap.size) w3 (w3.setRow w.heap.size q3.cells.toArray):=Keep.row _ _ _
        have h2:=HSZ.out
        refine ⟨Nat.le_trans HSd.out (Nat.le_trans HK3.out.size hkr.size),q3,HR3.out.keep hkr (fun j _ e=>.inr (by have e2:j=w.heap.size:=e;omega)),?_,by rw [HC3.out,HC.out],HM3.out.row _,(HZd.out.keep HK3.out (fun f=>f)).keep hkr (fun e=>by have e2:w.heap.size+1=w.heap.size:=e;omega),(HKd.out.then HK3.out).trans hkr (fun j hj e=>by have e2:j=w.heap.size:=e;omega)⟩
        rw [HP3.out,HP.out,tickN_succ,HF.out])
       go_roundw
       case rel=>first | exact ⟨j+1,by omega,by go_num,HNX⟩ | ((repeat apply Exists.intro);refine And.intro ?_ rfl;exact ⟨j+1,by omega,by go_num,HNX⟩)
       case measure=>simp [RowKit.intOf];omega
      ·have dd:decide (2 * q.c.h5≤now - x.last)=false:=decide_eq_false sd
       have HF:=hid (show stepT now (q.pt.tickN now j) j=q.pt.tickN now j from by rw [HSU.out,if_neg (fun h=>sd h.2)])
       clear s5 sd
       go_upto_region 4 with (go_at_call 101;(with_reducible refine (HVT.out _).mono ?_);rintro e1 w2 ⟨rfl,rfl⟩;rw [HV.out])
       go_quiet (fail)
       go_wp2_with fail
       go_roundw
       case rel=>first | exact ⟨j+1,by omega,by go_num,hid (HSAME.out _ ((Keep.refl _ _).drewN _) HF.out)⟩ | ((repeat apply Exists.intro);refine And.intro ?_ rfl;exact ⟨j+1,by omega,by go_num,hid (HSAME.out _ ((Keep.refl _ _).drewN _) HF.out)⟩)
       case measure=>simp [RowKit.intOf];omega
    ·obtain rfl:j=q.R.length:=by omega
     have HF:=hid (HFIN.out qj wr _ hr hp hc hk)
     clear hr hp hc hM hZ hk HI HT0
     go_upto_region 6 with fail
     go_wp2_with (first
      | (refine wpList_load_row rfl _ (.tmp 2) rfl w.heap.size rfl _ qj.cells.toArray (0,0) _ HM.out Tryz.underlying35 rfl (by kernel_rfl) ?_)
      | (refine wpList_store_row rfl _ (.tmp 4) (.tmp 44) rfl (w.heap.size+1) qj.cells.toArray rfl rfl _ _ HZ.out (by kernel_rfl) rfl (one_toArray (q_one qj)) ?_))
     refine bodyPost_ret (results_cell_row rfl _ _ _ _ _ _ _ rfl (HZ.out.row _) Tryz.underlying35 rfl (by kernel_rfl)) rfl ?_
     rw [HX.out]
     exact HF.out
end Go.Proofs.YtbjddfiledoaoaaGreat

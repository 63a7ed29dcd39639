import Derived.Test.YtbjddfiledoaoaaGreatYE
import Derived.Test.YtbjddfiledoaoaaGreatYN
namespace Go.Proofs.YtbjddfiledoaoaaGreat
open Go.RowKit
def CI (w wr:World) (A:Nat→Prop) (c:CF) (nc:Array Value) (X:XS):Prop:=∃ q:QS,RX wr A q∧q.pt=X∧q.c=c∧Blk wr w.heap.size 35 q.cells.toArray∧Blk wr (w.heap.size+1) 46 nc∧Blk wr (w.heap.size+1+1) 35 zero20.toArray∧Same w wr
theorem CI.same {w wr wr':World} {A:Nat→Prop} {c:CF} {nc:Array Value} {X:XS} (h:CI w wr A c nc X) (hk:Same wr wr'):CI w wr' A c nc X:=by
 obtain ⟨q,h1,h2,h3,h4,h5,h6,h7⟩:=h
 exact ⟨q,h1.same hk,h2,h3,h4.keep hk (fun f=>f),h5.keep hk (fun f=>f),h6.keep hk (fun f=>f),h7.then hk⟩
theorem icells_set (l:List Int) (k:Nat) (a:Int):(icells l).set k (.int .i64 a)=icells (l.set k a):=by unfold icells;rw [List.map_set]
set_option maxHeartbeats 8000000 in
set_option maxRecDepth 100000 in
theorem claimQ (w:World) (Av:Nat→Prop) (hAv:∀ i,Av i→i<w.heap.size) (q:QS) (h:RX w Av q) (hok:XOk q.pt) (hown:XOwn q.pt) (hn:q.R.length≤1000) (hno:q.out.length≤800000) (hne:q.ev.length≤800000) (now:Int) (hv:vN now 0=true) (m:Nt) (A:Option Addr) (cap:Nat) (hm:vM m=true) (hc:m.c<q.c.cen):Calls Tryz.prog 112 #[.agg q.cells.toArray,.agg (m.cells A cap).toArray,.int .i64 now] w (QPost w Av q.c (q.pt.claim m now)):=by
 have hm0:=((Blk.made w 35 q.cells.toArray).alloc (.cells (m.cells A cap).toArray 46)).alloc (.cells zero20.toArray 35)
 have he:=(Blk.made (w.alloc (.cells q.cells.toArray 35)) 46 (m.cells A cap).toArray).alloc (.cells zero20.toArray 35)
 have hz:=Blk.made ((w.alloc (.cells q.cells.toArray 35)).alloc (.cells (m.cells A cap).toArray 46)) 35 zero20.toArray
 have hw:Same w (((w.alloc (.cells q.cells.toArray 35)).alloc (.cells (m.cells A cap).toArray 46)).alloc (.cells zero20.toArray 35)):=(((Keep.refl _ _).alloc _).alloc _).alloc _
 rw [World.size_alloc] at he
 rw [World.size_alloc,World.size_alloc] at hz
 generalize hw1:(((w.alloc (.cells q.cells.toArray 35)).alloc (.cells (m.cells A cap).toArray 46)).alloc (.cells zero20.toArray 35))=w1 at *
 have hsz:w1.heap.size=w.heap.size+3:=by rw [←hw1];simp only [World.size_alloc]
 have HFIN:=hid (fun (qj:QS) (W:World) (X:XS) (hr:RX W (AvN w Av w1) qj) (hp:qj.pt=X) (hc:qj.c=q.c) (hk:Same w W)=>show QPost w Av q.c X (.returned (.agg qj.cells.toArray)) (W.setRow (w.heap.size+1+1) qj.cells.toArray) from by
  have hkr:Keep (fun j=>j=w.heap.size+1+1) W (W.setRow (w.heap.size+1+1) qj.cells.toArray):=Keep.row _ _ _
  exact ⟨qj,rfl,(hr.keep hkr (fun j _ e=>.inr (by have e2:j=w.heap.size+1+1:=e;omega))).wide (fun j _ hj=>.inl hj),hp,hc,hk.trans hkr (fun j hj e=>by have e2:j=w.heap.size+1+1:=e;omega)⟩)
 have hd0:=(vC_true (vM_iff.1 hm).2.2.2.2.1).1
 have hme:=vN_true (vM_iff.1 hm).2.2.1
 have hmc:=(vC_true (vM_iff.1 hm).2.2.2.2.2.1).1
 have hwl:(q.who.length:Int)=q.c.cen:=hok.wl
 have hel:(q.ep.length:Int)=q.c.cen:=hok.el
 obtain ⟨d,hd⟩:=Int.eq_ofNat_of_zero_le hd0
 have HM:=hid hm0
 have HN:=hid he
 have HZ:=hid hz
 have HW:=hid hw
 have HR:=hid h
 have HAV:=hid (AvN.lt (W:=w1) hAv hw.size)
 have HSZ:=hid hsz
 have n2:w1.cell? ⟨w.heap.size+1,2,none⟩=some (.int .i64 (d:Int)):=by rw [←show m.d=(d:Int) from hd];exact he.at_ 2
 have n4:w1.cell? ⟨w.heap.size+1,4,none⟩=some (.int .i64 m.e):=he.at_ 4
 have c0:w1.cell? ⟨w.heap.size,0,none⟩=some (.int .i64 q.c.cen):=hm0.at_ 0
 have h03:w.heap.size<w1.heap.size:=by omega
 have h13:w.heap.size+1<w1.heap.size:=by omega
 have hd1:(0:Int)≤(d:Int):=Int.natCast_nonneg _
 have dneg:decide ((d:Int)<0)=false:=decide_eq_false (by omega)
 by_cases g1:q.c.cen≤(d:Int)
 ·have d1:decide (q.c.cen≤(d:Int))=true:=decide_eq_true g1
  have HX:=hid (show q.pt.claim m now=q.pt from by
   unfold XS.claim
   rw [if_neg (fun hh=>by have h1:m.d<(q.who.length:Int):=hh.1;omega)])
  have HF:=hid (fun (W:World) (hk:Same w1 W)=>HFIN.out q W q.pt (h.later (hw.then hk) AvN.or) rfl rfl (hw.then hk))
  clear hm0 he hz hw h hAv hok hown hm hc hsz hd0 hme hmc hwl hel hd g1 hno hne hn
  as_aux_lemma =>
  go_enter Tryz.func112,Tryz.ntmps112
  go_upto_region 1 with fail
  try simp only [zero20] at hw1
  try rw [hw1]
  clear hw1
  refine wp_region_held_drew (S:=fun W=>W.cell? ⟨w.heap.size+1,2,none⟩=some (.int .i64 (d:Int))∧W.cell? ⟨w.heap.size+1,4,none⟩=some (.int .i64 m.e)∧W.cell? ⟨w.heap.size,0,none⟩=some (.int .i64 q.c.cen)) (by kernel_rfl) ⟨n2,n4,c0⟩ (fun hHeld=>?_)
  refine tk 0 ?_
  refine tk 1 ?_
  refine tk 2 ?_
  refine tk 3 ?_
  refine tk 4 ?_
  refine tk 5 ?_
  refine tk 6 ?_
  refine tk 7 ?_
  refine tk 8 ?_
  refine tk 9 ?_
  refine tk 10 ?_
  refine tk 11 ?_
  refine tu 12 ?_
  refine tu 13 ?_
  refine tu 14 ?_
  refine tu 15 ?_
  refine tu 16 ?_
  refine tu 17 ?_
  refine tu 18 ?_
  refine tu 19 ?_
  refine tu 20 ?_
  refine tk 21 ?_
  refine wpAnyH_done (by kernel_rfl) ?_ _
  generalize hwd:w1.drew=wd
  have HKd:=hid (show Same w1 wd from by rw [←hwd];exact (Keep.refl _ _).drew)
  have HM2:=hid (HM.out.keep HKd.out (fun f=>f))
  have HZ2:=hid (HZ.out.keep HKd.out (fun f=>f))
  clear hwd
  go_wp2_with (first
   | (refine wpList_load_row rfl _ (.tmp 3) rfl w.heap.size rfl _ q.cells.toArray (0,0) _ HM2.out Tryz.underlying35 rfl (by kernel_rfl) ?_)
   | (refine wpList_store_row rfl _ (.tmp 6) (.tmp 32) rfl (w.heap.size+1+1) q.cells.toArray rfl rfl _ _ HZ2.out (by kernel_rfl) rfl (one_toArray (q_one q)) ?_))
  refine bodyPost_ret (results_cell_row rfl _ _ _ _ _ _ _ rfl (HZ2.out.row _) Tryz.underlying35 rfl (by kernel_rfl)) rfl ?_
  rw [HX.out]
  exact HF.out _ HKd.out
 ·have d1:decide (q.c.cen≤(d:Int))=false:=decide_eq_false g1
  obtain ⟨a,ha⟩:=get_some (l:=q.who) (k:=d) (by omega)
  obtain ⟨b,hb⟩:=get_some (l:=q.ep) (k:=d) (by omega)
  have hhold:q.pt.hold m.d=(a,b):=by rw [show m.d=(d:Int) from hd];exact XS.hold_at ha hb
  have hob:=hok.own d a b ha hb
  obtain ⟨eb,eo,hEA,heb,hec⟩:=int_at (h.ep.same hw) hb
  have c17:w1.cell? ⟨w.heap.size,17,none⟩=some (.slice (some ⟨eb,eo,none⟩) q.ep.length q.ec):=(hm0.at_ 17).trans (by rw [←hEA];rfl)
  have hde:(d:Int)<(q.ep.length:Int):=by omega
  by_cases g2:m.e≤b
  ·have d2:decide (m.e≤b)=true:=decide_eq_true g2
   have HX:=hid (show q.pt.claim m now=q.pt from by
    unfold XS.claim
    rw [if_neg (fun hh=>by have h1:=hh.2;rw [hhold] at h1;simp only at h1;omega)])
   have HF:=hid (fun (W:World) (hk:Same w1 W)=>HFIN.out q W q.pt (h.later (hw.then hk) AvN.or) rfl rfl (hw.then hk))
   clear hm0 he hz hw h hAv hok hown hm hc hsz hd0 hme hmc hwl hel hd g1 g2 hno hne hn ha hb hhold hob hEA heb
   as_aux_lemma =>
   go_enter Tryz.func112,Tryz.ntmps112
   go_upto_region 1 with fail
   try simp only [zero20] at hw1
   try rw [hw1]
   clear hw1
   refine wp_region_held_drew (S:=fun W=>W.cell? ⟨w.heap.size+1,2,none⟩=some (.int .i64 (d:Int))∧W.cell? ⟨w.heap.size+1,4,none⟩=some (.int .i64 m.e)∧W.cell? ⟨w.heap.size,0,none⟩=some (.int .i64 q.c.cen)∧W.cell? ⟨w.heap.size,17,none⟩=some (.slice (some ⟨eb,eo,none⟩) q.ep.length q.ec)∧W.cell? ⟨eb,eo+d,none⟩=some (.int .i64 b)) (by kernel_rfl) ⟨n2,n4,c0,c17,hec⟩ (fun hHeld=>?_)
   refine tk 0 ?_
   refine tk 1 ?_
   refine tk 2 ?_
   refine tk 3 ?_
   refine tk 4 ?_
   refine tk 5 ?_
   refine tk 6 ?_
   refine tk 7 ?_
   refine tk 8 ?_
   refine tk 9 ?_
   refine tk 10 ?_
   refine tk 11 ?_
   refine tk 12 ?_
   refine tk 13 ?_
   refine tk 14 ?_
   refine tk 15 ?_
   refine tk 16 ?_
   refine tk 17 ?_
   refine tk 18 ?_
   refine tk 19 ?_
   refine tk 20 ?_
   refine tk 21 ?_
   refine wpAnyH_done (by kernel_rfl) ?_ _
   generalize hwd:w1.drew=wd
   have HKd:=hid (show Same w1 wd from by rw [←hwd];exact (Keep.refl _ _).drew)
   have HM2:=hid (HM.out.keep HKd.out (fun f=>f))
   have HZ2:=hid (HZ.out.keep HKd.out (fun f=>f))
   clear hwd
   go_wp2_with (first
    | (refine wpList_load_row rfl _ (.tmp 3) rfl w.heap.size rfl _ q.cells.toArray (0,0) _ HM2.out Tryz.underlying35 rfl (by kernel_rfl) ?_)
    | (refine wpList_store_row rfl _ (.tmp 6) (.tmp 32) rfl (w.heap.size+1+1) q.cells.toArray rfl rfl _ _ HZ2.out (by kernel_rfl) rfl (one_toArray (q_one q)) ?_))
   refine bodyPost_ret (results_cell_row rfl _ _ _ _ _ _ _ rfl (HZ2.out.row _) Tryz.underlying35 rfl (by kernel_rfl)) rfl ?_
   rw [HX.out]
   exact HF.out _ HKd.out
  ·have d2:decide (m.e≤b)=false:=decide_eq_false g2
   have hhe:(q.pt.hold m.d).2<m.e:=by rw [hhold];simp only;omega
   have hdl:m.d<(q.pt.who.length:Int):=by show m.d<(q.who.length:Int);omega
   have HX:=hid (show q.pt.claim m now=(q.pt.take m).claimN m.d now q.R.length from by
    unfold XS.claim
    rw [if_pos ⟨hdl,hhe⟩]
    simp [QS.pt])
   have HCL:=hid (fun j=>ClInv.all hok hown hm hdl hhe (by omega) hv j)
   have HASS:=hid (fun (Y:XS) (j:Nat) (l:Ln) (hI:ClInv q.pt m now j Y)=>claim_assign (l:=l) (j:=j) hown hI hm hhe (by omega) hv)
   have hXT:XOk (q.pt.take m):=hok.take ⟨hmc,hc⟩ ⟨by omega,hme.2⟩
   have HTO:=hid (fun j=>claimN_ok hXT hv m.d j)
   have HEQ:=hid (fun j=>claimN_eq (q.pt.take m) m.d now j)
   have HLN:=hid (fun j=>claimN_len (q.pt.take m) m.d now j)
   have HNL:=hid (show (q.pt.take m).L.length=q.R.length from by simp [QS.pt,XS.take])
   have HOL:=hid (show (q.pt.take m).out.length=q.out.length from by simp [QS.pt,XS.take])
   have HEL:=hid (show (q.pt.take m).ev.length=q.ev.length from rfl)
   have HWS:=hid (show (q.pt.take m).who=q.who.set d m.c from by show q.who.set m.d.toNat m.c=_;rw [show m.d.toNat=d from by rw [hd];rfl])
   have HES:=hid (show (q.pt.take m).ep=q.ep.set d m.e from by show q.ep.set m.d.toNat m.e=_;rw [show m.d.toNat=d from by rw [hd];rfl])
   have HD:=hid (show m.d=(d:Int) from hd)
   have hdw:(d:Int)<(q.who.length:Int):=by omega
   have HVN:=hid hv
   have HQB:=hid (show q.who.length≤100∧q.ep.length≤100∧d<q.who.length∧d<q.ep.length from by have:=hok.c9;have h1:q.pt.cen=q.c.cen:=rfl;omega)
   have HDT:=hid (show m.d.toNat=d from by rw [hd];rfl)
   have HWA:=hid ha
   have HWB:=hid hb
   have HNN:=hid (And.intro hn (And.intro hno hne))
   have HWSL:=hid (h.who)
   have HESL:=hid (h.ep)
   clear hm0 he hz hw h hAv hok hown hm hc hsz hd0 hme hmc hwl hel hd g1 g2 hno hne hn ha hb hhold hob hEA heb hhe hdl hXT hv
   go_enter Tryz.func112,Tryz.ntmps112
   go_upto_region 1 with fail
   try simp only [zero20] at hw1
   try rw [hw1]
   clear hw1
   refine wp_region_held_drew (S:=fun W=>W.cell? ⟨w.heap.size+1,2,none⟩=some (.int .i64 (d:Int))∧W.cell? ⟨w.heap.size+1,4,none⟩=some (.int .i64 m.e)∧W.cell? ⟨w.heap.size,0,none⟩=some (.int .i64 q.c.cen)∧W.cell? ⟨w.heap.size,17,none⟩=some (.slice (some ⟨eb,eo,none⟩) q.ep.length q.ec)∧W.cell? ⟨eb,eo+d,none⟩=some (.int .i64 b)) (by kernel_rfl) ⟨n2,n4,c0,c17,hec⟩ (fun hHeld=>?_)
   refine tk 0 ?_
   refine tk 1 ?_
   refine tk 2 ?_
   refine tk 3 ?_
   refine tk 4 ?_
   refine tk 5 ?_
   refine tk 6 ?_
   refine tk 7 ?_
   refine tk 8 ?_
   refine tk 9 ?_
   refine tk 10 ?_
   refine tk 11 ?_
   refine tk 12 ?_
   refine tk 13 ?_
   refine tk 14 ?_
   refine tk 15 ?_
   refine tk 16 ?_
   refine tk 17 ?_
   refine tk 18 ?_
   refine tk 19 ?_
   refine tk 20 ?_
   refine tk 21 ?_
   refine wpAnyH_done (by kernel_rfl) ?_ _
   generalize hwd:w1.drew=wd
   have HKd:=hid (show Same w1 wd from by rw [←hwd];exact (Keep.refl _ _).drew)
   have HM2:=hid (HM.out.keep HKd.out (fun f=>f))
   have HN2:=hid (HN.out.keep HKd.out (fun f=>f))
   have HZ2:=hid (HZ.out.keep HKd.out (fun f=>f))
   have HK2:=hid (HW.out.then HKd.out)
   have c16:wd.cell? ⟨w.heap.size,16,none⟩=some (.slice q.WA q.who.length q.wc):=HM2.out.at_ 16
   have f16:wd.frozen? ⟨w.heap.size,16,none⟩=false:=HM2.out.free 16
   clear hwd n2 n4 c0 c17 hec HM HN HZ
   go_upto_region 6 with (first
    | (at_builtin
       refine EIn.law2 (.tmp 33) (.tmp 35) (.slice none 0 0) q.WA q.who.length q.wc rfl rfl rfl rfl wd.heap.size 0 [] (icells q.who) q.who.length (icells q.who) (Nat.zero_add _) rfl (Own.nil _ _ _ _) (by rw [icells_len];omega) ((HWSL.out.same HK2.out).src (Keep.refl (fun _=>False) _)) (icells_one _) (by have:=HQB.out.1;omega) (by unfold maxLen;have:=HQB.out.1;omega) (Nat.le_refl _) ?_
       intro A3 c3 w3 ho hg hw
       have HO3:=hid ho
       have HK3:=hid ((Keep.refl (fun _=>False) wd).app (Own.nil wd wd.heap.size 3 1) hg (fun g h1 h2=>by omega))
       have c16:w3.cell? ⟨w.heap.size,16,none⟩=some (.slice q.WA q.who.length q.wc):=(HM2.out.keep HK3.out (fun f=>f)).at_ 16
       have f16:w3.frozen? ⟨w.heap.size,16,none⟩=false:=(HM2.out.keep HK3.out (fun f=>f)).free 16
       clear ho hg hw))
   obtain ⟨g3,cur3,hA3,_⟩:=HO3.out.open_ (by have:=HQB.out.2.2.1;omega)
   subst hA3
   have hg3:wd.heap.size≤g3:=HO3.out.block g3 rfl
   have hsd:=HKd.out.size
   obtain ⟨q4,hq4⟩:∃ q4:QS,q4={ q with WA:=some ⟨g3,0,none⟩,wc:=c3 }:=⟨_,rfl⟩
   have hkp:Keep (fun j=>j=w.heap.size) w3 (w3.setCell ⟨w.heap.size,16,none⟩ (.slice (some ⟨g3,0,none⟩) q.who.length c3)):=(Keep.refl _ _).put 16 _
   have HM4:=hid (show Blk (w3.setCell ⟨w.heap.size,16,none⟩ (.slice (some ⟨g3,0,none⟩) q.who.length c3)) w.heap.size 35 q4.cells.toArray from by
    have h1:=(HM2.out.keep HK3.out (fun f=>f)).put 16 (.slice (some ⟨g3,0,none⟩) q.who.length c3)
    rw [show q4.cells.toArray=q.cells.toArray.setIfInBounds 16 (.slice (some ⟨g3,0,none⟩) q.who.length c3) from by rw [hq4];simp [QS.cells]]
    exact h1)
   have HN4:=hid ((HN2.out.keep HK3.out (fun f=>f)).keep hkp (fun e=>by have e2:w.heap.size+1=w.heap.size:=e;omega))
   have HZ4:=hid ((HZ2.out.keep HK3.out (fun f=>f)).keep hkp (fun e=>by have e2:w.heap.size+1+1=w.heap.size:=e;omega))
   have HK4:=hid ((HK2.out.then HK3.out).trans hkp (fun j hj e=>by have e2:j=w.heap.size:=e;omega))
   have HO4:=hid (HO3.out.keepB hkp (fun g hg e=>by have e2:g=w.heap.size:=e;have h9:=HO3.out.block g hg;omega))
   have HS4:=hid (show w1.heap.size≤(w3.setCell ⟨w.heap.size,16,none⟩ (.slice (some ⟨g3,0,none⟩) q.who.length c3)).heap.size from Nat.le_trans hsd (Nat.le_trans HK3.out.size hkp.size))
   have HQ4:=hid hq4
   have HG3:=hid (Nat.le_trans hsd hg3)
   clear hkp c16 f16 hg3 hsd hq4 HM2 HN2 HZ2 HK2 HO3 HK3
   generalize (w3.setCell ⟨w.heap.size,16,none⟩ (.slice (some ⟨g3,0,none⟩) q.who.length c3))=w4 at *
   have c17:w4.cell? ⟨w.heap.size,17,none⟩=some (.slice q.EA q.ep.length q.ec):=(HM4.out.at_ 17).trans (by rw [HQ4.out];rfl)
   have f17:=HM4.out.free 17
   go_upto_region 7 with (first
    | (at_builtin
       refine EI64.law2 (.tmp 38) (.tmp 40) (.slice none 0 0) q.EA q.ep.length q.ec rfl rfl rfl rfl w4.heap.size 0 [] (icells q.ep) q.ep.length (icells q.ep) (Nat.zero_add _) rfl (Own.nil _ _ _ _) (by rw [icells_len];omega) ((HESL.out.same HK4.out).src (Keep.refl (fun _=>False) _)) (icells_one _) (by have:=HQB.out.2.1;omega) (by unfold maxLen;have:=HQB.out.2.1;omega) (Nat.le_refl _) ?_
       intro A5 c5 w5 ho hg hw
       have HO5:=hid ho
       have HK5:=hid ((Keep.refl (fun _=>False) w4).app (Own.nil w4 w4.heap.size 2 1) hg (fun g h1 h2=>by omega))
       have c17:w5.cell? ⟨w.heap.size,17,none⟩=some (.slice q.EA q.ep.length q.ec):=((HM4.out.keep HK5.out (fun f=>f)).at_ 17).trans (by rw [HQ4.out];rfl)
       have f17:w5.frozen? ⟨w.heap.size,17,none⟩=false:=(HM4.out.keep HK5.out (fun f=>f)).free 17
       clear ho hg hw))
   obtain ⟨g5,cur5,hA5,_⟩:=HO5.out.open_ (by have:=HQB.out.2.2.2;omega)
   subst hA5
   have hg5:w4.heap.size≤g5:=HO5.out.block g5 rfl
   have h34:=HO4.out.lt g3 rfl
   obtain ⟨q6,hq6⟩:∃ q6:QS,q6={ q4 with EA:=some ⟨g5,0,none⟩,ec:=c5 }:=⟨_,rfl⟩
   have hkp:Keep (fun j=>j=w.heap.size) w5 (w5.setCell ⟨w.heap.size,17,none⟩ (.slice (some ⟨g5,0,none⟩) q.ep.length c5)):=(Keep.refl _ _).put 17 _
   have HM6:=hid (show Blk (w5.setCell ⟨w.heap.size,17,none⟩ (.slice (some ⟨g5,0,none⟩) q.ep.length c5)) w.heap.size 35 q6.cells.toArray from by
    have h1:=(HM4.out.keep HK5.out (fun f=>f)).put 17 (.slice (some ⟨g5,0,none⟩) q.ep.length c5)
    rw [show q6.cells.toArray=q4.cells.toArray.setIfInBounds 17 (.slice (some ⟨g5,0,none⟩) q.ep.length c5) from by rw [hq6,HQ4.out];simp [QS.cells]]
    exact h1)
   have hlt3:=HG3.out
   have hs4:=HS4.out
   have HN6:=hid ((HN4.out.keep HK5.out (fun f=>f)).keep hkp (fun e=>by have e2:w.heap.size+1=w.heap.size:=e;omega))
   have HZ6:=hid ((HZ4.out.keep HK5.out (fun f=>f)).keep hkp (fun e=>by have e2:w.heap.size+1+1=w.heap.size:=e;omega))
   have HK6:=hid ((HK4.out.then HK5.out).trans hkp (fun j hj e=>by have e2:j=w.heap.size:=e;omega))
   have HO6:=hid ((HO4.out.keepB HK5.out (fun _ _ f=>f)).keepB hkp (fun g hg e=>by have e2:g=w.heap.size:=e;have h9:=HO4.out.block g hg;have h8:=HKd.out.size;omega))
   have HE6:=hid (HO5.out.keepB hkp (fun g hg e=>by have e2:g=w.heap.size:=e;have h9:=HO5.out.block g hg;omega))
   have HS6:=hid (show w1.heap.size≤(w5.setCell ⟨w.heap.size,17,none⟩ (.slice (some ⟨g5,0,none⟩) q.ep.length c5)).heap.size from Nat.le_trans hs4 (Nat.le_trans HK5.out.size hkp.size))
   have HQ6:=hid (show q6={ q with WA:=some ⟨g3,0,none⟩,wc:=c3,EA:=some ⟨g5,0,none⟩,ec:=c5 } from by rw [hq6,HQ4.out])
   have h35:g3<g5:=by omega
   have HG5:=hid (show w1.heap.size≤g5 from by omega)
   have HW46:=hid (show w1.heap.size≤w4.heap.size from hs4)
   clear hkp c17 f17 hg5 hq6 HM4 HN4 HZ4 HK4 HO4 HO5 HK5 h34 hlt3 hs4 HQ4
   generalize (w5.setCell ⟨w.heap.size,17,none⟩ (.slice (some ⟨g5,0,none⟩) q.ep.length c5))=w6 at *
   have e16:w6.cell? ⟨w.heap.size,16,none⟩=some (.slice (some ⟨g3,0,none⟩) q.who.length c3):=(HM6.out.at_ 16).trans (by rw [HQ6.out];rfl)
   have e17:w6.cell? ⟨w.heap.size,17,none⟩=some (.slice (some ⟨g5,0,none⟩) q.ep.length c5):=(HM6.out.at_ 17).trans (by rw [HQ6.out];rfl)
   have n2:w6.cell? ⟨w.heap.size+1,2,none⟩=some (.int .i64 (d:Int)):=by rw [←HD.out];exact HN6.out.at_ 2
   have n3:w6.cell? ⟨w.heap.size+1,3,none⟩=some (.int .i64 m.c):=HN6.out.at_ 3
   have n4:w6.cell? ⟨w.heap.size+1,4,none⟩=some (.int .i64 m.e):=HN6.out.at_ 4
   have w3d:w6.cell? ⟨g3,d,none⟩=some (.int .i64 a):=HO6.out.cell (by unfold icells;rw [List.getElem?_map,HWA.out];rfl)
   have w3f:w6.frozen? ⟨g3,d,none⟩=false:=HO6.out.free (by have:=HQB.out.2.2.1;omega) d
   have w5d:w6.cell? ⟨g5,d,none⟩=some (.int .i64 b):=HE6.out.cell (by unfold icells;rw [List.getElem?_map,HWB.out];rfl)
   have w5f:w6.frozen? ⟨g5,d,none⟩=false:=HE6.out.free (by have:=HQB.out.2.2.2;omega) d
   have hg3:=HG3.out
   have hg5:=HG5.out
   go_region
   have hpa:=HO6.out.put (by have:=HQB.out.2.2.1;omega) d (.int .i64 m.c)
   rw [icells_set] at hpa
   have hkA:Keep (fun j=>j=g3) w6 (w6.setCell ⟨g3,d,none⟩ (.int .i64 m.c)):=(Keep.refl _ _).put d _
   have hkB:Keep (fun j=>j=g5) (w6.setCell ⟨g3,d,none⟩ (.int .i64 m.c)) ((w6.setCell ⟨g3,d,none⟩ (.int .i64 m.c)).setCell ⟨g5,d,none⟩ (.int .i64 m.e)):=(Keep.refl _ _).put d _
   have hkD:Same ((w6.setCell ⟨g3,d,none⟩ (.int .i64 m.c)).setCell ⟨g5,d,none⟩ (.int .i64 m.e)) ((w6.setCell ⟨g3,d,none⟩ (.int .i64 m.c)).setCell ⟨g5,d,none⟩ (.int .i64 m.e)).drew:=(Keep.refl _ _).drew
   have hpb:=(HE6.out.keepB hkA (fun g hg e=>by have e2:g=g3:=e;have e3:some g5=some g:=hg;injection e3 with e3;omega)).put (by have:=HQB.out.2.2.2;omega) d (.int .i64 m.e)
   rw [icells_set] at hpb
   have HPB:=hid (hpb.keepB hkD (fun _ _ f=>f))
   have HPA:=hid ((hpa.keepB hkB (fun g hg e=>by have e2:g=g5:=e;have e3:some g3=some g:=hg;injection e3 with e3;omega)).keepB hkD (fun _ _ f=>f))
   have hk8:Keep (fun j=>j=g3∨j=g5) w6 ((w6.setCell ⟨g3,d,none⟩ (.int .i64 m.c)).setCell ⟨g5,d,none⟩ (.int .i64 m.e)).drew:=((hkA.wide (fun _ _ e=>.inl e)).trans hkB (fun _ _ e=>.inr e)).drew
   have h03':=h03
   have HM8:=hid (HM6.out.keep hk8 (fun e=>by rcases e with e | e <;> omega))
   have HN8:=hid (HN6.out.keep hk8 (fun e=>by rcases e with e | e <;> omega))
   have HZ8:=hid (HZ6.out.keep hk8 (fun e=>by have:=HSZ.out;rcases e with e | e <;> omega))
   have HK8:=hid (HK6.out.trans hk8 (fun j hj e=>by rcases e with e | e <;> omega))
   have HS8:=hid (Nat.le_trans HS6.out hk8.size)
   have HSD:=hid HKd.out.size
   clear hpa hpb hkA hkB hkD hk8 h03' e16 e17 n2 n3 n4 w3d w3f w5d w5f hg3 hg5 h35 HM6 HN6 HZ6 HO6 HE6 HK6 HS6
   generalize ((w6.setCell ⟨g3,d,none⟩ (.int .i64 m.c)).setCell ⟨g5,d,none⟩ (.int .i64 m.e)).drew=w8 at *
   obtain ⟨q8,hq8⟩:∃ q8:QS,q8={ q with WA:=some ⟨g3,0,none⟩,wc:=c3,who:=q.who.set d m.c,EA:=some ⟨g5,0,none⟩,ec:=c5,ep:=q.ep.set d m.e }:=⟨_,rfl⟩
   have HC8:=hid (show CI w w8 (AvN w Av w1) q.c (m.cells A cap).toArray ((q.pt.take m).claimN m.d now 0) from by
    have h0:=HR.out.later HK8.out AvN.or (Av':=AvN w Av w1)
    refine ⟨q8,?_,?_,by rw [hq8],?_,HN8.out,HZ8.out,HK8.out⟩
    ·rw [hq8]
     refine ⟨h0.L,h0.lin,?_,?_,h0.out,h0.body,h0.ev⟩
     ·have h1:=HPA.out.sl (Av:=AvN w Av w1) (fun g hg ha=>by have h2:=HAV.out g ha;have h3:=HSD.out;omega)
      rw [List.length_set];exact h1
     ·have h1:=HPB.out.sl (Av:=AvN w Av w1) (fun g hg ha=>by have h2:=HAV.out g ha;have h3:=HW46.out;omega)
      rw [List.length_set];exact h1
    ·rw [hq8]
     show _=q.pt.take m
     unfold XS.take QS.pt
     rw [HDT.out]
    ·rw [show q8.cells.toArray=q6.cells.toArray from by rw [hq8,HQ6.out];simp [QS.cells]]
     exact HM8.out)
   have z15:w8.cell? ⟨w.heap.size,15,none⟩=some (.slice q.LA q.R.length q.lc):=(HM8.out.at_ 15).trans (by rw [HQ6.out];rfl)
   clear hq8 HM8 HN8 HZ8 HPA HPB HR HW HWSL HESL HKd HK8
   go_wp2_with fail
   go_loopw [60] (fun i wr=>∃ j:Nat,j≤q.R.length∧i=.int .i64 j∧Hid (w1.heap.size≤wr.heap.size∧CI w wr (AvN w Av w1) q.c (m.cells A cap).toArray ((q.pt.take m).claimN m.d now j))) (fun i _=>q.R.length - (RowKit.intOf i).toNat)
   case atStart=>exact ⟨0,Nat.zero_le _,rfl,hid ⟨HS8.out,HC8.out⟩⟩
   case round =>
    obtain ⟨j,hj,rfl,HI⟩:=hrel
    clear z15 HC8
    obtain ⟨qj,hr,hp,hc,hM,hN,hZ,hk⟩:=HI.out.2
    have hR:qj.R.length=q.R.length:=by
     have h1:qj.pt.L.length=((q.pt.take m).claimN m.d now j).L.length:=congrArg (fun X=>X.L.length) hp
     have h2:=(HEQ.out j).n
     have h3:=HNL.out
     have h4:qj.pt.L.length=qj.R.length:=by simp [QS.pt]
     omega
    have z15:wr.cell? ⟨w.heap.size,15,none⟩=some (.slice qj.LA qj.R.length qj.lc):=hM.at_ 15
    rw [hR] at z15
    have HM:=hid hM
    have HN:=hid hN
    have HZ:=hid hZ
    have hj0:(0:Int)≤(j:Int):=Int.natCast_nonneg _
    have hjb:j≤1000:=by have:=HNN.out.1;omega
    by_cases hjn:j<q.R.length
    ·have hj1:(j:Int)<(q.R.length:Int):=by omega
     obtain ⟨x,hx⟩:=get_some (l:=qj.R) (k:=j) (by omega)
     obtain ⟨rb,off,hLA,hrb,_,hrow⟩:=hr.L.at_ (by omega)
     rw [hLA] at z15
     have hrg:=range_row hrow hx
     have zs:wr.cell? ⟨rb,off+j * 11+1,none⟩=some (.int .i64 x.s.st):=hrg 1 _ rfl
     have zd:wr.cell? ⟨rb,off+j * 11+8,none⟩=some (.int .i64 x.d):=hrg 8 _ rfl
     have n2:wr.cell? ⟨w.heap.size+1,2,none⟩=some (.int .i64 (d:Int)):=by rw [←HD.out];exact hN.at_ 2
     have hL:((q.pt.take m).claimN m.d now j).L[j]? = some x.pt:=by
      rw [←hp]
      show (qj.R.map QA.pt)[j]? = _
      rw [List.getElem?_map,hx];rfl
     have hokx:=(HTO.out j).ln j x.pt hL
     have hST:stepC m.d now ((q.pt.take m).claimN m.d now j) j=if x.d=m.d∧x.s.st≠5 then ((q.pt.take m).claimN m.d now j).bind j x.pt now else (q.pt.take m).claimN m.d now j:=by
      unfold stepC
      rw [hL];rfl
     have hqo:qj.out.length≤900000:=by
      have h1:qj.pt.out.length=((q.pt.take m).claimN m.d now j).out.length:=congrArg (fun X=>X.out.length) hp
      have h2:=(HLN.out j).1
      have h3:=HOL.out
      have h4:qj.pt.out.length=qj.out.length:=by simp [QS.pt]
      have h5:=HNN.out.2.1
      have h6:=HNN.out.1
      omega
     have hqe:qj.ev.length≤900000:=by
      have h1:qj.pt.ev.length=((q.pt.take m).claimN m.d now j).ev.length:=congrArg (fun X=>X.ev.length) hp
      have h2:=(HLN.out j).2.1
      have h3:=HEL.out
      have h4:qj.pt.ev.length=qj.ev.length:=rfl
      have h5:=HNN.out.2.2
      have h6:=HNN.out.1
      omega
     have HSU:=hid hST
     have HSAME:=hid (fun (W:World) (hkk:Same wr W) (he:stepC m.d now ((q.pt.take m).claimN m.d now j) j=(q.pt.take m).claimN m.d now j)=>show w1.heap.size≤W.heap.size∧CI w W (AvN w Av w1) q.c (m.cells A cap).toArray ((q.pt.take m).claimN m.d now (j+1)) from by
      rw [claimN_succ,he]
      exact ⟨Nat.le_trans HI.out.1 hkk.size,HI.out.2.same hkk⟩)
     have HBI:=hid (fun (W:World) (hkk:Same wr W) (hxd:x.d=m.d) (hst:x.s.st≠5)=>by
      have hI:=HCL.out j
      have hwho:qj.who=q.who.set d m.c:=by
       have h1:qj.pt.who=qj.who:=rfl
       rw [←h1,hp,hI.who,HWS.out]
      have hep:qj.ep=q.ep.set d m.e:=by
       have h1:qj.pt.ep=qj.ep:=rfl
       rw [←h1,hp,hI.ep,HES.out]
      have hb:=HQB.out
      exact bindQ W (AvN w Av w1) (fun i hi=>Nat.lt_of_lt_of_le (HAV.out i hi) (Nat.le_trans HI.out.1 hkk.size)) qj (hr.same hkk) (by have:=HNN.out.1;omega) hqo hqe now HVN.out j x hx hokx.1 d (by rw [hxd];exact HD.out) m.c m.e (by rw [hwho,List.getElem?_set_self hb.2.2.1]) (by rw [hep,List.getElem?_set_self hb.2.2.2]) (HASS.out _ j x.pt hI hL hxd hst))
     unfold QPost at HBI
     have HC:=hid hc
     have HP:=hid hp
     have HK:=hid hk
     have HS1:=hid HI.out.1
     clear hr hp hc hM hN hZ hk HI hx hLA hrb hrow hrg hL hokx hST hqo hqe hR
     by_cases xd:x.d=m.d
     ·by_cases s5:x.s.st=5
      ·have d5:(x.s.st != 5)=false:=by simp [s5]
       have HF:=hid (show stepC m.d now ((q.pt.take m).claimN m.d now j) j=(q.pt.take m).claimN m.d now j from by rw [HSU.out,if_neg (fun h=>h.2 s5)])
       have dd:(x.d == (d:Int))=true:=by rw [xd,HD.out];simp
       clear s5 xd
       as_aux_lemma =>
       go_upto_region 11 with fail
       refine wp_region_held_drew (S:=fun W=>W.cell? ⟨w.heap.size,15,none⟩=some (.slice (some ⟨rb,off,none⟩) q.R.length qj.lc)∧W.cell? ⟨rb,off+j * 11+1,none⟩=some (.int .i64 x.s.st)∧W.cell? ⟨rb,off+j * 11+8,none⟩=some (.int .i64 x.d)∧W.cell? ⟨w.heap.size+1,2,none⟩=some (.int .i64 (d:Int))) (by kernel_rfl) ⟨z15,zs,zd,n2⟩ (fun hHeld=>?_)
       refine tk 0 ?_
       refine tk 1 ?_
       refine tk 2 ?_
       refine tk 3 ?_
       refine tk 4 ?_
       refine tk 5 ?_
       refine tk 6 ?_
       refine tk 7 ?_
       refine tk 8 ?_
       refine tk 9 ?_
       refine tk 10 ?_
       refine tk 11 ?_
       refine tk 12 ?_
       refine tk 13 ?_
       refine tk 14 ?_
       refine tk 15 ?_
       refine tk 16 ?_
       refine tk 17 ?_
       refine tk 18 ?_
       refine wpAnyH_done (by kernel_rfl) ?_ _
       go_wp2_with fail
       have HNX:=hid (HSAME.out _ (Keep.refl (fun _=>False) wr).drew HF.out)
       go_roundw
       case rel=>first | exact ⟨j+1,by omega,by go_num,HNX⟩ | ((repeat apply Exists.intro);refine And.intro ?_ rfl;exact ⟨j+1,by omega,by go_num,HNX⟩)
       case measure=>simp [RowKit.intOf];omega
      ·have d5:(x.s.st != 5)=true:=by simpa using s5
       have HF:=hid (show stepC m.d now ((q.pt.take m).claimN m.d now j) j=((q.pt.take m).claimN m.d now j).bind j x.pt now from by rw [HSU.out,if_pos ⟨xd,s5⟩])
       have dd:(x.d == (d:Int))=true:=by rw [xd,HD.out];simp
       have HB1:=hid (fun W hk=>HBI.out W hk xd s5)
       clear s5 xd
       as_aux_lemma =>
       go_upto_region 11 with fail
       refine wp_region_held_drew (S:=fun W=>W.cell? ⟨w.heap.size,15,none⟩=some (.slice (some ⟨rb,off,none⟩) q.R.length qj.lc)∧W.cell? ⟨rb,off+j * 11+1,none⟩=some (.int .i64 x.s.st)∧W.cell? ⟨rb,off+j * 11+8,none⟩=some (.int .i64 x.d)∧W.cell? ⟨w.heap.size+1,2,none⟩=some (.int .i64 (d:Int))) (by kernel_rfl) ⟨z15,zs,zd,n2⟩ (fun hHeld=>?_)
       refine tk 0 ?_
       refine tk 1 ?_
       refine tk 2 ?_
       refine tk 3 ?_
       refine tk 4 ?_
       refine tk 5 ?_
       refine tk 6 ?_
       refine tk 7 ?_
       refine tk 8 ?_
       refine tk 9 ?_
       refine tk 10 ?_
       refine tk 11 ?_
       refine tk 12 ?_
       refine tk 13 ?_
       refine tk 14 ?_
       refine tk 15 ?_
       refine tk 16 ?_
       refine tk 17 ?_
       refine tk 18 ?_
       refine wpAnyH_done (by kernel_rfl) ?_ _
       generalize hwd:wr.drew=wd
       have hkd:Same wr wd:=by rw [←hwd];exact (Keep.refl _ _).drew
       clear hwd hHeld z15 zs zd n2
       have HMd:=hid (HM.out.keep hkd (fun f=>f))
       have HNd:=hid (HN.out.keep hkd (fun f=>f))
       have HZd:=hid (HZ.out.keep hkd (fun f=>f))
       have HKd:=hid (HK.out.then hkd)
       have HOd:=hid (HB1.out wd hkd)
       have HSd:=hid (Nat.le_trans HS1.out hkd.size)
       clear hkd
       go_wp2_with (first
        | (refine wpList_load_row rfl _ (.tmp 3) rfl w.heap.size rfl _ qj.cells.toArray (0,0) _ HMd.out Tryz.underlying35 rfl (by kernel_rfl) ?_)
        | (go_at_call 105;(with_reducible refine HOd.out.mono ?_);rintro e w3 ⟨q3,rfl,hr3,hp3,hc3,hk3⟩
           have HR3:=hid hr3
           have HP3:=hid hp3
           have HC3:=hid hc3
           have HK3:=hid hk3
           have HM3:=hid (HMd.out.keep hk3 (fun f=>f))
           clear hr3 hp3 hc3 hk3)
        | (refine wpList_store_row rfl _ (.tmp 3) (.tmp 85) rfl w.heap.size q3.cells.toArray rfl rfl _ _ HM3.out (by kernel_rfl) rfl (one_toArray (q_one q3)) ?_))
       have HNX:=hid (show w1.heap.size≤(w3.setRow w.heap.size q3.cells.toArray).heap.size∧CI w (w3.setRow w.heap.size q3.cells.toArray) (AvN w Av w1) q.c (m.cells A cap).toArray ((q.pt.take m).claimN m.d now (j+1)) from by
        have hkr:Keep (fun j=>j=w.heap.size) w3 (w3.setRow w.heap.size q3.cells.toArray):=Keep.row _ _ _
        have h2:=HSZ.out
        refine ⟨Nat.le_trans HSd.out (Nat.le_trans HK3.out.size hkr.size),q3,HR3.out.keep hkr (fun j _ e=>.inr (by have e2:j=w.heap.size:=e;omega)),?_,by rw [HC3.out,HC.out],HM3.out.row _,(HNd.out.keep HK3.out (fun f=>f)).keep hkr (fun e=>by have e2:w.heap.size+1=w.heap.size:=e;omega),(HZd.out.keep HK3.out (fun f=>f)).keep hkr (fun e=>by have e2:w.heap.size+1+1=w.heap.size:=e;omega),(HKd.out.then HK3.out).trans hkr (fun j hj e=>by have e2:j=w.heap.size:=e;omega)⟩
        rw [HP3.out,HP.out,claimN_succ,HF.out])
       go_roundw
       case rel=>first | exact ⟨j+1,by omega,by go_num,HNX⟩ | ((repeat apply Exists.intro);refine And.intro ?_ rfl;exact ⟨j+1,by omega,by go_num,HNX⟩)
       case measure=>simp [RowKit.intOf];omega
     ·have dd:(x.d == (d:Int))=false:=by rw [←HD.out];simpa using xd
      have HF:=hid (show stepC m.d now ((q.pt.take m).claimN m.d now j) j=(q.pt.take m).claimN m.d now j from by rw [HSU.out,if_neg (fun h=>xd h.1)])
      clear xd
      as_aux_lemma =>
      go_upto_region 11 with fail
      refine wp_region_held_drew (S:=fun W=>W.cell? ⟨w.heap.size,15,none⟩=some (.slice (some ⟨rb,off,none⟩) q.R.length qj.lc)∧W.cell? ⟨rb,off+j * 11+1,none⟩=some (.int .i64 x.s.st)∧W.cell? ⟨rb,off+j * 11+8,none⟩=some (.int .i64 x.d)∧W.cell? ⟨w.heap.size+1,2,none⟩=some (.int .i64 (d:Int))) (by kernel_rfl) ⟨z15,zs,zd,n2⟩ (fun hHeld=>?_)
      refine tk 0 ?_
      refine tk 1 ?_
      refine tk 2 ?_
      refine tk 3 ?_
      refine tk 4 ?_
      refine tk 5 ?_
      refine tk 6 ?_
      refine tk 7 ?_
      refine tk 8 ?_
      refine tk 9 ?_
      refine tu 10 ?_
      refine tu 11 ?_
      refine tu 12 ?_
      refine tu 13 ?_
      refine tu 14 ?_
      refine tu 15 ?_
      refine tu 16 ?_
      refine tu 17 ?_
      refine tk 18 ?_
      refine wpAnyH_done (by kernel_rfl) ?_ _
      go_wp2_with fail
      have HNX:=hid (HSAME.out _ (Keep.refl (fun _=>False) wr).drew HF.out)
      go_roundw
      case rel=>first | exact ⟨j+1,by omega,by go_num,HNX⟩ | ((repeat apply Exists.intro);refine And.intro ?_ rfl;exact ⟨j+1,by omega,by go_num,HNX⟩)
      case measure=>simp [RowKit.intOf];omega
    ·obtain rfl:j=q.R.length:=by omega
     have HF:=hid (HFIN.out qj wr _ hr hp hc hk)
     clear hr hp hc hM hN hZ hk HI
     go_upto_region 14 with fail
     go_wp2_with (first
      | (refine wpList_load_row rfl _ (.tmp 3) rfl w.heap.size rfl _ qj.cells.toArray (0,0) _ HM.out Tryz.underlying35 rfl (by kernel_rfl) ?_)
      | (refine wpList_store_row rfl _ (.tmp 6) (.tmp 87) rfl (w.heap.size+1+1) qj.cells.toArray rfl rfl _ _ HZ.out (by kernel_rfl) rfl (one_toArray (q_one qj)) ?_))
     refine bodyPost_ret (results_cell_row rfl _ _ _ _ _ _ _ rfl (HZ.out.row _) Tryz.underlying35 rfl (by kernel_rfl)) rfl ?_
     rw [HX.out]
     exact HF.out
end Go.Proofs.YtbjddfiledoaoaaGreat

import Derived.Test.YtbjddfiledoaoaaGreatYL
namespace Go.Proofs.YtbjddfiledoaoaaGreat
open Go.RowKit
set_option maxHeartbeats 8000000 in
set_option maxRecDepth 100000 in
theorem do_take {w:World} {T:Tags} {p:PS} {q:QS} {c:CF} {b:Nat} (J:JJ w T p q c b) (hb:b≤60) (a:AT) (ha:ATok w (fun i=>T i≠none) a) (hf:fewA a=true) (hk:a.k=5):Calls Tryz.prog 29 #[.pointer (some ⟨p.x,0,none⟩),.agg q.cells.toArray,.agg a.cells.toArray] w (DoP w T p.x q.pt c b a):=by
 have hm:=((Blk.made w 35 q.cells.toArray).alloc (.cells a.cells.toArray 63)).alloc (.cells zero20.toArray 35)
 have he:=(Blk.made (w.alloc (.cells q.cells.toArray 35)) 63 a.cells.toArray).alloc (.cells zero20.toArray 35)
 have hz:=Blk.made ((w.alloc (.cells q.cells.toArray 35)).alloc (.cells a.cells.toArray 63)) 35 zero20.toArray
 have hw:Same w (((w.alloc (.cells q.cells.toArray 35)).alloc (.cells a.cells.toArray 63)).alloc (.cells zero20.toArray 35)):=(((Keep.refl _ _).alloc _).alloc _).alloc _
 rw [World.size_alloc] at he
 rw [World.size_alloc,World.size_alloc] at hz
 generalize hw1:(((w.alloc (.cells q.cells.toArray 35)).alloc (.cells a.cells.toArray 63)).alloc (.cells zero20.toArray 35))=w1 at *
 have hsz:w1.heap.size=w.heap.size+3:=by rw [←hw1];simp only [World.size_alloc]
 have hJ1:=J.rsv hw
 have hT0:(T.rsv w.heap.size w1.heap.size) w.heap.size=some .rsv:=Tags.rsv_at (by omega) (by omega)
 have hT1:(T.rsv w.heap.size w1.heap.size) (w.heap.size+1)=some .rsv:=Tags.rsv_at (by omega) (by omega)
 have hT2:(T.rsv w.heap.size w1.heap.size) (w.heap.size+1+1)=some .rsv:=Tags.rsv_at (by omega) (by omega)
 have HM:=hid hm
 have HE:=hid he
 have HZ:=hid hz
 have HW:=hid hw
 have HJ:=hid J
 have HJ1:=hid hJ1
 have HSZ:=hid hsz
 have HT:=hid (And.intro hT0 (And.intro hT1 hT2))
 have HB:=hid hb
 have HF:=hid hf
 have HA:=hid (ha.step (Mv.rsv J.px.lt hw) (fun _ f=>f.elim))
 have HLN:=hid (And.intro J.lens hJ1.n)
 have h03:w.heap.size<w1.heap.size:=by omega
 have h13:w.heap.size+1<w1.heap.size:=by omega
 have hact:∀ X:XS,actX X a (bodyA a)={ X with out:=[],ev:=[] }:=fun X=>by unfold actX;rw [if_neg (by omega)];rw [if_neg (by omega)];rw [if_neg (by omega)];rw [if_neg (by omega)];rw [if_neg (by omega)];rw [if_pos hk]
 have HACT:=hid hact
 have HEQ:=hid J.eq
 have z18:w1.cell? ⟨w.heap.size,18,none⟩=some (.slice q.OA q.out.length q.oc):=hm.at_ 18
 have z19:w1.cell? ⟨w.heap.size,19,none⟩=some (.slice q.VA q.ev.length q.vc):=hm.at_ 19
 have y0:w1.cell? ⟨w.heap.size+1,0,none⟩=some (.int .i64 5):=by rw [←hk];exact he.at_ 0
 have HKK:=hid hk
 clear hk hact
 clear hm he hz hw J hb ha hf hsz hJ1 hT0 hT1 hT2
 go_enter Tryz.func29,Tryz.ntmps29
 go_upto_region 1 with fail
 try simp only [zero20] at hw1
 try rw [hw1]
 clear hw1
 go_upto_region 23 with fail
 refine wp_region_held_drew (S:=fun W=>W.cell? ⟨w.heap.size,18,none⟩=some (.slice q.OA q.out.length q.oc)∧W.cell? ⟨w.heap.size,19,none⟩=some (.slice q.VA q.ev.length q.vc)) (by kernel_rfl) ⟨z18,z19⟩ (fun hHeld=>?_)
 refine tk 0 ?_
 refine tk 2 ?_
 refine tk 3 ?_
 have hkd:Same w1 w1.drew:=(Keep.refl _ _).drew
 have hJd:=HJ1.out.same hkd
 have HMd:=hid (HM.out.keep hkd (fun f=>f))
 have HZd:=hid (HZ.out.keep hkd (fun f=>f))
 have HKd:=hid hkd
 clear hHeld z18 z19
 generalize w1.drew=wd at *
 obtain ⟨OV,ovc,hov⟩:=hJd.px.out.own.shape
 obtain ⟨EV,evc,hev⟩:=hJd.px.ev.own.shape
 have hpg:w.heap.size≠p.x:=fun e=>by
  have h1:=hJd.px.tx
  rw [←e,HT.out.1] at h1
  injection h1 with h1;cases h1
 have HPG:=hid hpg
 have HOX:=hid (outboxX hJd.px)
 rw [hov] at HOX
 have hno:=hJd.px.noOut
 have HNO:=hid hno
 have hoa:Own (wd.setCell ⟨p.x,5,none⟩ (.slice none 0 0)) 0 56 3 (.slice OV p.out.length ovc) p.out.length (p.out.flatMap PkA.cells):=by
  have h1:=hJd.px.out.own.keepB hno.2.keep (fun g hg e=>by
   have e2:g=p.x:=e
   have h2:=hJd.px.out.tag g hg
   rw [e2,hJd.px.tx] at h2
   injection h2 with h2;cases h2)
  rw [hov] at h1;exact h1
 have hNx:∀ i,i=p.x→(T.rsv w.heap.size w1.heap.size) i≠none:=fun i hi=>by rw [hi,hJd.px.tx];exact fun h=>by cases h
 have hra:=hJd.rx.step hno.2 hNx
 have HLQ:=hid (lettersQ (wd.setCell ⟨p.x,5,none⟩ (.slice none 0 0)) (fun _=>False) (fun _=>False) OV q.OA ovc q.oc p.out q.out (hoa.sl (fun _ _ f=>f)) (hra.out.wide (fun _ _ f=>f.elim)) (fun y hy=>(hno.2.slice hNx (hJd.px.body y hy)).wide (fun _ _ f=>f.elim)) (fun y hy=>(hra.body y hy).wide (fun _ _ f=>f.elim)) (congrArg XS.out hJd.eq) (by have:=HLN.out;have:=HB.out;omega))
 have HRA:=hid hra
 have HEVE:=hid hev
 have HNX:=hid hNx
 have HMa:=hid (HMd.out.keep hno.2.keep HPG.out)
 have HZa:=hid (HZd.out.keep hno.2.keep (fun e=>by
  have e2:w.heap.size+1+1=p.x:=e
  have h1:=hJd.px.tx
  rw [←e2,HT.out.2.2] at h1
  injection h1 with h1;cases h1))
 have HEQD:=hid hJd.eq
 clear hkd hov hev hpg hno hoa hNx hra hJd
 refine rd1 1 (fun K hK=>?_)
 go_simp
 (with_reducible refine HOX.out.mono ?_)
 rintro e1 wa ⟨rfl,hwa⟩
 subst hwa
 refine hK.out _ _ ⟨HMa.out.at_ 18,HMa.out.at_ 19⟩ (fun hHeld1=>?_)
 clear hK K
 refine pput ?_
 generalize (wd.setCell ⟨p.x,5,none⟩ (.slice none 0 0))=wa at *
 refine rd1 4 (fun K hK=>?_)
 go_simp
 (with_reducible refine HLQ.out.mono ?_)
 rintro e1 wb ⟨rfl,hkb⟩
 have HMb:=hid (HMa.out.keep hkb (fun f=>f))
 have HZb:=hid (HZa.out.keep hkb (fun f=>f))
 have HNOb:=hid (HNO.out.1.same hkb)
 have HRB:=hid (HRA.out.same hkb)
 have HKb:=hid hkb
 clear hkb
 refine hK.out _ _ ⟨HMb.out.at_ 18,HMb.out.at_ 19⟩ (fun hHeld2=>?_)
 clear hK K
 refine pput ?_
 refine tk 5 ?_
 refine tk 6 ?_
 refine tk 8 ?_
 refine tk 9 ?_
 have HEX:=hid (eventsX HNOb.out)
 rw [show ({ p with out:=[],ov:=.slice none 0 0 }:PS).evv=.slice EV p.ev.length evc from HEVE.out] at HEX
 have hne2:=HNOb.out.noEv
 have HNE:=hid hne2
 have hea:Own (wb.setCell ⟨p.x,6,none⟩ (.slice none 0 0)) 0 104 28 (.slice EV p.ev.length evc) p.ev.length (p.ev.flatMap Ev.cells):=by
  have h1:=HNOb.out.ev.own.keepB hne2.2.keep (fun g hg e=>by
   have e2:g=p.x:=e
   have h2:=HNOb.out.ev.tag g hg
   rw [e2,HNOb.out.tx] at h2
   injection h2 with h2;cases h2)
  have h3:({ p with out:=[],ov:=.slice none 0 0 }:PS).evv=.slice EV p.ev.length evc:=HEVE.out
  rw [h3] at h1;exact h1
 have hrc:=HRB.out.step hne2.2 HNX.out
 have hpe:p.ev=q.ev:=congrArg XS.ev HEQD.out
 rw [hpe] at hea
 have HEQ2:=hid (eventsQ (wb.setCell ⟨p.x,6,none⟩ (.slice none 0 0)) (fun _=>False) (fun _=>False) EV q.VA evc q.vc q.ev (hea.sl (fun _ _ f=>f)) (hrc.ev.wide (fun _ _ f=>f.elim)) (by have:=HLN.out;have:=HB.out;omega))
 rw [hpe] at HEX
 have HRC:=hid hrc
 have HMc:=hid (HMb.out.keep hne2.2.keep HPG.out)
 have HZc:=hid (HZb.out.keep hne2.2.keep (fun e=>by
  have e2:w.heap.size+1+1=p.x:=e
  have h1:=HNOb.out.tx
  have h2:(T.rsv w.heap.size w1.heap.size) p.x=some .hdr:=h1
  rw [←e2,HT.out.2.2] at h2
  injection h2 with h2;cases h2))
 clear hne2 hea hrc hpe
 refine rd1 7 (fun K hK=>?_)
 go_simp
 (with_reducible refine HEX.out.mono ?_)
 rintro e1 wc ⟨rfl,hwc⟩
 subst hwc
 refine hK.out _ _ ⟨HMc.out.at_ 18,HMc.out.at_ 19⟩ (fun hHeld3=>?_)
 clear hK K
 refine pput ?_
 generalize (wb.setCell ⟨p.x,6,none⟩ (.slice none 0 0))=wc at *
 refine rd1 10 (fun K hK=>?_)
 go_simp
 (with_reducible refine HEQ2.out.mono ?_)
 rintro e1 we ⟨rfl,hke⟩
 have HMe:=hid (HMc.out.keep hke (fun f=>f))
 have HZe:=hid (HZc.out.keep hke (fun f=>f))
 have HPE:=hid (HNE.out.1.same hke)
 have HRE:=hid (HRC.out.same hke)
 have HKe:=hid hke
 clear hke
 refine hK.out _ _ ⟨HMe.out.at_ 18,HMe.out.at_ 19⟩ (fun hHeld4=>?_)
 clear hK K
 refine pput ?_
 refine tk 11 ?_
 refine tk 12 ?_
 refine wpAnyH_done (by kernel_rfl) ?_ _
 have hkx:Keep (fun i=>i=p.x) w1 we:=((((HKd.out.wide (T:=fun i=>i=p.x) (fun _ _ f=>f.elim)).trans HNO.out.2.keep (fun _ _ e=>e)).then HKb.out).trans HNE.out.2.keep (fun _ _ e=>e)).then HKe.out
 have hms:Mv w1 (T.rsv w.heap.size w1.heap.size) we (T.rsv w.heap.size w1.heap.size) (fun i=>i=p.x):=Mv.put HJ1.out.px.lt hkx
 have hon:∀ i,i=p.x→(T.rsv w.heap.size w1.heap.size).on i:=fun i e=>by rw [e];exact Tags.on_of HJ1.out.px.tx (fun h=>by cases h)
 have HMS:=hid hms
 have HON:=hid hon
 have c18:we.cell? ⟨w.heap.size,18,none⟩=some (.slice q.OA q.out.length q.oc):=HMe.out.at_ 18
 have f18:=HMe.out.free 18
 have c19:we.cell? ⟨w.heap.size,19,none⟩=some (.slice q.VA q.ev.length q.vc):=HMe.out.at_ 19
 have f19:=HMe.out.free 19
 clear hkx hms hon hHeld1 hHeld2 hHeld3 hHeld4
 go_upto_region 25 with fail
 obtain ⟨q3,hq3⟩:∃ q3:QS,q3={ q with OA:=none,oc:=0,out:=[],VA:=none,vc:=0,ev:=[] }:=⟨_,rfl⟩
 have HM5:=hid (show Blk ((we.setCell ⟨w.heap.size,18,none⟩ (.slice none 0 0)).setCell ⟨w.heap.size,19,none⟩ (.slice none 0 0)) w.heap.size 35 q3.cells.toArray from by
  have h1:=(HMe.out.put 18 (.slice none 0 0)).put 19 (.slice none 0 0)
  rw [show q3.cells.toArray=(q.cells.toArray.setIfInBounds 18 (.slice none 0 0)).setIfInBounds 19 (.slice none 0 0) from by rw [hq3];simp [QS.cells]]
  exact h1)
 have hk5:Keep (fun i=>i=w.heap.size) we ((we.setCell ⟨w.heap.size,18,none⟩ (.slice none 0 0)).setCell ⟨w.heap.size,19,none⟩ (.slice none 0 0)):=((Keep.refl (fun i=>i=w.heap.size) we).put 18 _).put 19 _
 have HZ5:=hid (HZe.out.keep hk5 (fun e=>by have e2:w.heap.size+1+1=w.heap.size:=e;omega))
 have hr5:=HRE.out.keep hk5 (fun i _ e=>by have e2:i=w.heap.size:=e;rw [e2,HT.out.1];exact fun h=>by cases h)
 have HR5:=hid (show RX ((we.setCell ⟨w.heap.size,18,none⟩ (.slice none 0 0)).setCell ⟨w.heap.size,19,none⟩ (.slice none 0 0)) (fun i=>(T.rsv w.heap.size w1.heap.size) i≠none) q3 from by
  rw [hq3]
  exact ⟨hr5.L,hr5.lin,hr5.who,hr5.ep,Sl.nil _ _ _ _,(fun y hy=>by cases hy),Sl.nil _ _ _ _⟩)
 have HK5:=hid hk5
 have HQ3:=hid (show q3.pt={ q.pt with out:=[],ev:=[] } from by rw [hq3];rfl)
 have HC3:=hid (show q3.c=q.c from by rw [hq3])
 clear hk5 hr5 hq3 c18 f18 c19 f19
 generalize ((we.setCell ⟨w.heap.size,18,none⟩ (.slice none 0 0)).setCell ⟨w.heap.size,19,none⟩ (.slice none 0 0))=w5 at *
 have HD:=hid (do_end HJ.out HB.out a HW.out HMS.out HON.out HPE.out rfl (by
  rw [HACT.out,←HEQ.out];rfl) HK5.out (fun i e=>by have e2:i=w.heap.size:=e;rw [e2];exact HT.out.1) (fun i e=>Nat.le_of_eq (show i=w.heap.size from e).symm) HR5.out (by rw [HQ3.out,HACT.out]) (HC3.out.trans HJ.out.cfg) (show w.heap.size≤w.heap.size+1+1 by omega) (by have:=HSZ.out;omega))
 go_wp2_with (first
  | (refine wpList_load_row rfl _ (.tmp 4) rfl w.heap.size rfl _ q3.cells.toArray (0,0) _ HM5.out Tryz.underlying35 rfl (by kernel_rfl) ?_)
  | (refine wpList_store_row rfl _ (.tmp 6) (.tmp 153) rfl (w.heap.size+1+1) q3.cells.toArray rfl rfl _ _ HZ5.out (by kernel_rfl) rfl (one_toArray (q_one q3)) ?_))
 refine bodyPost_ret (results_cell_tmp rfl _ _ _ _ _ _ _ _ rfl rfl (HZ5.out.row _) Tryz.underlying35 rfl (by kernel_rfl)) rfl ?_
 exact HD.out
end Go.Proofs.YtbjddfiledoaoaaGreat

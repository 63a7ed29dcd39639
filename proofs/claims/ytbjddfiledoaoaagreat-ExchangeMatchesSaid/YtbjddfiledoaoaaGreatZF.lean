import Derived.Test.YtbjddfiledoaoaaGreatZEp
import Derived.Test.YtbjddfiledoaoaaGreatYL
import Derived.Test.YtbjddfiledoaoaaGreatYO
namespace Go.Proofs.YtbjddfiledoaoaaGreat
open Go.RowKit
set_option maxHeartbeats 8000000 in
set_option maxRecDepth 100000 in
theorem matches_walk (w:World) (c:CF) (hmm:CM w c) (hff:Few c) (B:Option Addr) (cb:Nat) (l:List AT) (hl:ATs w (fun _=>False) B l) (hn:l.length≤maxLen):Calls Tryz.prog 3 #[.agg c.cells.toArray,.slice B l.length cb] w (fun e w'=>e=.returned (.bool true)∧Same w w'):=by
 have hm:=Blk.made w 27 c.cells.toArray
 have hw:Same w (w.alloc (.cells c.cells.toArray 27)):=(Keep.refl _ _).alloc _
 generalize hw1:(w.alloc (.cells c.cells.toArray 27))=w1 at *
 have HPL:=hid (playedU w1 c (hmm.same hw) hff B cb l (hl.same hw) hn)
 unfold PlU at HPL
 have HAW:=hid awakeQ
 have HM:=hid hm
 have HW:=hid hw
 clear hm hmm hff hl hn hw
 go_enter Tryz.func3,Tryz.ntmps3
 go_upto_region 1 with fail
 try rw [hw1]
 clear hw1
 go_upto_region 2 with (first
  | (refine wpList_load_row rfl _ (.tmp 2) rfl w.heap.size rfl _ c.cells.toArray (0,0) _ HM.out Tryz.underlying27 rfl (by kernel_rfl) ?_)
  | (go_at_call 9
     (with_reducible refine HPL.out.mono ?_)
     rintro e w2 ⟨P,q,rfl,hk2,hc2⟩
     have HK2:=hid hk2
     have HC2:=hid hc2
     have HZN:=hid (Blk.made w2 35 #[.int .i64 0,.slice none 0 0,.slice none 0 0,.slice none 0 0,.slice none 0 0,.int .i64 0,.int .i64 0,.int .i64 0,.int .i64 0,.int .i64 0,.int .i64 0,.int .i64 0,.int .i64 0,.int .i64 0,.int .i64 0,.slice none 0 0,.slice none 0 0,.slice none 0 0,.slice none 0 0,.slice none 0 0])
     clear hk2 hc2)
  | (refine wpList_store_row rfl _ (.tmp 6) (.tmp 13) rfl w2.heap.size q.cells.toArray rfl rfl _ _ HZN.out (by kernel_rfl) rfl (one_toArray (q_one q)) ?_))
 have hL3:Blk ((w2.alloc (.cells #[.int .i64 0,.slice none 0 0,.slice none 0 0,.slice none 0 0,.slice none 0 0,.int .i64 0,.int .i64 0,.int .i64 0,.int .i64 0,.int .i64 0,.int .i64 0,.int .i64 0,.int .i64 0,.int .i64 0,.int .i64 0,.slice none 0 0,.slice none 0 0,.slice none 0 0,.slice none 0 0,.slice none 0 0] 35)).setRow w2.heap.size q.cells.toArray) w2.heap.size 35 q.cells.toArray:=HZN.out.row _
 have hk3:Same w2 ((w2.alloc (.cells #[.int .i64 0,.slice none 0 0,.slice none 0 0,.slice none 0 0,.slice none 0 0,.int .i64 0,.int .i64 0,.int .i64 0,.int .i64 0,.int .i64 0,.int .i64 0,.int .i64 0,.int .i64 0,.int .i64 0,.int .i64 0,.slice none 0 0,.slice none 0 0,.slice none 0 0,.slice none 0 0,.slice none 0 0] 35)).setRow w2.heap.size q.cells.toArray):=((Keep.refl (fun _=>False) w2).alloc _).trans (Keep.row _ _ _) (fun j hj e=>by have e2:j=w2.heap.size:=e;omega)
 obtain ⟨gy,hgy⟩:∃ g,g=w2.heap.size:=⟨_,rfl⟩
 rw [←hgy] at hL3 hk3 ⊢
 have HL:=hid hL3
 have HK3:=hid hk3
 have HGY:=hid hgy
 clear hL3 hk3 hgy HZN HPL
 generalize ((w2.alloc (.cells #[.int .i64 0,.slice none 0 0,.slice none 0 0,.slice none 0 0,.slice none 0 0,.int .i64 0,.int .i64 0,.int .i64 0,.int .i64 0,.int .i64 0,.int .i64 0,.int .i64 0,.int .i64 0,.int .i64 0,.int .i64 0,.slice none 0 0,.slice none 0 0,.slice none 0 0,.slice none 0 0,.slice none 0 0] 35)).setRow gy q.cells.toArray)=w3 at *
 have hc2:=HC2.out
 clear HC2
 rcases hc2 with rfl | ⟨T,p,rfl,hj,hq,hnew,h40,hv,hfw⟩
 ·go_wp2_with (go_at_call 10;(with_reducible refine (HAW.out _).mono ?_);rintro e w4 ⟨rfl,hk4⟩;have HK4:=hid hk4;clear hk4)
  go_ret
  exact ⟨rfl,(((HW.out.then HK2.out).then HK3.out).then HK4.out)⟩
 ·have HPG:=hid (show gy≠p.x from fun e=>by have h1:=hj.px.lt p.x (by rw [hj.px.tx];exact fun h=>by cases h);have:=HGY.out;omega)
  have HJ:=hid (hj.same HK3.out)
  have HNW:=hid hnew
  have z18:w3.cell? ⟨gy,18,none⟩=some (.slice q.OA q.out.length q.oc):=HL.out.at_ 18
  have z19:w3.cell? ⟨gy,19,none⟩=some (.slice q.VA q.ev.length q.vc):=HL.out.at_ 19
  have HB:=hid h40
  have HLN:=hid (show p.out.length≤4000∧q.out.length≤4000∧q.ev.length≤4000 from by have h1:=HJ.out.lens;have h2:=HJ.out.n;omega)
  clear hj hq hnew h40 hv hfw
  go_upto_region 4 with fail
  refine wp_region_held_drew (S:=fun W=>W.cell? ⟨gy,18,none⟩=some (.slice q.OA q.out.length q.oc)∧W.cell? ⟨gy,19,none⟩=some (.slice q.VA q.ev.length q.vc)) (by kernel_rfl) ⟨z18,z19⟩ (fun hHeld=>?_)
  refine tk 0 ?_
  refine tk 1 ?_
  refine tk 2 ?_
  refine tk 4 ?_
  refine tk 5 ?_
  have hkd:Same w3 w3.drew:=(Keep.refl _ _).drew
  have hJd:=HJ.out.same hkd
  have HMd:=hid (HL.out.keep hkd (fun f=>f))
  have HKd:=hid hkd
  clear hHeld z18 z19
  generalize w3.drew=wd at *
  obtain ⟨OV,ovc,hov⟩:=hJd.px.out.own.shape
  obtain ⟨EV,evc,hev⟩:=hJd.px.ev.own.shape
  have HOX:=hid (outboxX hJd.px)
  rw [hov] at HOX
  have hno:=hJd.px.noOut
  have HNO:=hid hno
  have hoa:Own (wd.setCell ⟨p.x,5,none⟩ (.slice none 0 0)) 0 56 3 (.slice OV p.out.length ovc) p.out.length (p.out.flatMap PkA.cells):=by
   have h1:=hJd.px.out.own.keepB hno.2.keep (fun g hg e=>by
    have e2:g=p.x:=e
    have h2:=hJd.px.out.tag g hg
    rw [e2,hJd.px.tx] at h2
    injection h2 with h2;cases h2)
   rw [hov] at h1;exact h1
  have hNx:∀ i,i=p.x→T i≠none:=fun i hi=>by rw [hi,hJd.px.tx];exact fun h=>by cases h
  have hra:=hJd.rx.step hno.2 hNx
  have HLQ:=hid (lettersQ (wd.setCell ⟨p.x,5,none⟩ (.slice none 0 0)) (fun _=>False) (fun _=>False) OV q.OA ovc q.oc p.out q.out (hoa.sl (fun _ _ f=>f)) (hra.out.wide (fun _ _ f=>f.elim)) (fun y hy=>(hno.2.slice hNx (hJd.px.body y hy)).wide (fun _ _ f=>f.elim)) (fun y hy=>(hra.body y hy).wide (fun _ _ f=>f.elim)) (congrArg XS.out hJd.eq) (by have:=HLN.out;have:=HB.out;omega))
  have HRA:=hid hra
  have HEVE:=hid hev
  have HNX:=hid hNx
  have HMa:=hid (HMd.out.keep hno.2.keep HPG.out)
  have HEQD:=hid hJd.eq
  have HLEN:=hid hJd.lens
  clear hkd hov hev hno hoa hNx hra hJd
  refine rd1 3 (fun K hK=>?_)
  go_simp
  (with_reducible refine HOX.out.mono ?_)
  rintro e1 wa ⟨rfl,hwa⟩
  subst hwa
  refine hK.out _ _ ⟨HMa.out.at_ 18,HMa.out.at_ 19⟩ (fun hHeld1=>?_)
  clear hK K
  refine pput ?_
  generalize (wd.setCell ⟨p.x,5,none⟩ (.slice none 0 0))=wa at *
  refine rd1 6 (fun K hK=>?_)
  go_simp
  (with_reducible refine HLQ.out.mono ?_)
  rintro e1 wb ⟨rfl,hkb⟩
  have HMb:=hid (HMa.out.keep hkb (fun f=>f))
  have HNOb:=hid (HNO.out.1.same hkb)
  have HRB:=hid (HRA.out.same hkb)
  have HKb:=hid hkb
  clear hkb
  refine hK.out _ _ ⟨HMb.out.at_ 18,HMb.out.at_ 19⟩ (fun hHeld2=>?_)
  clear hK K
  refine pput ?_
  refine tk 7 ?_
  refine tk 8 ?_
  refine tk 9 ?_
  refine tk 11 ?_
  refine tk 12 ?_
  have HEX:=hid (eventsX HNOb.out)
  rw [show ({ p with out:=[],ov:=.slice none 0 0 }:PS).evv=.slice EV p.ev.length evc from HEVE.out] at HEX
  have hne2:=HNOb.out.noEv
  have HNE:=hid hne2
  have hea:Own (wb.setCell ⟨p.x,6,none⟩ (.slice none 0 0)) 0 104 28 (.slice EV p.ev.length evc) p.ev.length (p.ev.flatMap Ev.cells):=by
   have h1:=HNOb.out.ev.own.keepB hne2.2.keep (fun g hg e=>by
    have e2:g=p.x:=e
    have h2:=HNOb.out.ev.tag g hg
    rw [e2,HNOb.out.tx] at h2
    injection h2 with h2;cases h2)
   have h3:({ p with out:=[],ov:=.slice none 0 0 }:PS).evv=.slice EV p.ev.length evc:=HEVE.out
   rw [h3] at h1;exact h1
  have hrc:=HRB.out.step hne2.2 HNX.out
  have hpe:p.ev=q.ev:=congrArg XS.ev HEQD.out
  rw [hpe] at hea
  have HEQ2:=hid (eventsQ (wb.setCell ⟨p.x,6,none⟩ (.slice none 0 0)) (fun _=>False) (fun _=>False) EV q.VA evc q.vc q.ev (hea.sl (fun _ _ f=>f)) (hrc.ev.wide (fun _ _ f=>f.elim)) (by have:=HLN.out;have:=HB.out;omega))
  rw [hpe] at HEX
  have HRC:=hid hrc
  have HMc:=hid (HMb.out.keep hne2.2.keep HPG.out)
  clear hne2 hea hrc hpe
  refine rd1 10 (fun K hK=>?_)
  go_simp
  (with_reducible refine HEX.out.mono ?_)
  rintro e1 wc ⟨rfl,hwc⟩
  subst hwc
  refine hK.out _ _ ⟨HMc.out.at_ 18,HMc.out.at_ 19⟩ (fun hHeld3=>?_)
  clear hK K
  refine pput ?_
  generalize (wb.setCell ⟨p.x,6,none⟩ (.slice none 0 0))=wc at *
  refine rd1 13 (fun K hK=>?_)
  go_simp
  (with_reducible refine HEQ2.out.mono ?_)
  rintro e1 we ⟨rfl,hke⟩
  have HMe:=hid (HMc.out.keep hke (fun f=>f))
  have HPE:=hid (HNE.out.1.same hke)
  have HKe:=hid hke
  clear hke
  refine hK.out _ _ ⟨HMe.out.at_ 18,HMe.out.at_ 19⟩ (fun hHeld4=>?_)
  clear hK K
  refine pput ?_
  refine tk 14 ?_
  refine tk 15 ?_
  refine tk 16 ?_
  refine tk 19 ?_
  have HO2:=hid (outboxX HPE.out)
  have hn3:=HPE.out.noOut
  have HE2:=hid (eventsX hn3.1)
  have hn4:=hn3.1.noEv
  dsimp only at HO2 HE2
  have HM6:=hid (HMe.out.keep hn3.2.keep HPG.out)
  have HM7:=hid (HM6.out.keep hn4.2.keep HPG.out)
  have HK6:=hid hn3.2.keep
  have HK7:=hid hn4.2.keep
  clear hn3 hn4
  refine rd1 17 (fun K hK=>?_)
  go_simp
  (with_reducible refine HO2.out.mono ?_)
  rintro e1 wf ⟨rfl,hwf⟩
  subst hwf
  refine hK.out _ _ ⟨HM6.out.at_ 18,HM6.out.at_ 19⟩ (fun hHeld5=>?_)
  clear hK K
  refine pput ?_
  generalize (we.setCell ⟨p.x,5,none⟩ (.slice none 0 0))=wf at *
  refine tk 18 ?_
  refine rd1 20 (fun K hK=>?_)
  go_simp
  (with_reducible refine HE2.out.mono ?_)
  rintro e1 wg ⟨rfl,hwg⟩
  subst hwg
  refine hK.out _ _ ⟨HM7.out.at_ 18,HM7.out.at_ 19⟩ (fun hHeld6=>?_)
  clear hK K
  refine pput ?_
  generalize (wf.setCell ⟨p.x,6,none⟩ (.slice none 0 0))=wg at *
  refine tk 21 ?_
  refine tk 22 ?_
  refine tk 23 ?_
  simp only [show IntKind.i64.wrap 0=0 from rfl,beq_self_eq_true]
  refine tk 24 ?_
  refine tk 25 ?_
  refine rd1 26 (fun K hK=>?_)
  go_simp
  (with_reducible refine (HAW.out _).mono ?_)
  rintro e1 wh ⟨rfl,hkh⟩
  have HM8:=hid (HM7.out.keep hkh (fun f=>f))
  have HK8:=hid hkh
  clear hkh
  refine hK.out _ _ ⟨HM8.out.at_ 18,HM8.out.at_ 19⟩ (fun hHeld7=>?_)
  clear hK K
  refine pput ?_
  refine tk 27 ?_
  refine tk 28 ?_
  refine wpAnyH_done (by kernel_rfl) ?_ _
  go_wp2_with fail
  go_ret
  have hpx:w.heap.size≤p.x:=Nat.le_trans HW.out.size (HNW.out p.x (by rw [HJ.out.px.tx];exact fun h=>by cases h))
  have hk:Keep (fun i=>i=p.x) w _:=(((((((((HW.out.then HK2.out).then HK3.out).then HKd.out).wide (T:=fun i=>i=p.x) (fun _ _ f=>f.elim)).trans HNO.out.2.keep (fun _ _ e=>e)).then HKb.out).trans HNE.out.2.keep (fun _ _ e=>e)).then HKe.out).trans HK6.out (fun _ _ e=>e)).trans HK7.out (fun _ _ e=>e)
  exact ⟨rfl,(hk.then HK8.out).wide (T:=fun _=>False) (fun i hi e=>by have e2:i=p.x:=e;omega)⟩
end Go.Proofs.YtbjddfiledoaoaaGreat

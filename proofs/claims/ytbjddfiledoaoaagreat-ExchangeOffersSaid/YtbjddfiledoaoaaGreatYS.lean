import Derived.Test.YtbjddfiledoaoaaGreatYSa
namespace Go.Proofs.YtbjddfiledoaoaaGreat
open Go.RowKit
set_option maxHeartbeats 8000000 in
set_option maxRecDepth 100000 in
theorem letterQ_sp (w:World) (Av:Nat→Prop) (hAv:∀ i,Av i→i<w.heap.size) (a:AT) (h:ATok w Av a) (hbl:a.note.body.length≤200) (hsl:a.sp.length≤200) (place:Int) (hq:0<a.sp.length):Calls Tryz.prog 64 #[.agg a.cells.toArray,.int .i64 place] w (LtP w Av a place):=by
 have hm:=((Blk.made w 63 a.cells.toArray).alloc (.cells #[.int .i64 0,.int .i64 0,.slice none 0 0] 56)).alloc (.cells #[.int .i64 0,.int .i64 0,.int .i64 0,.int .i64 0,.int .i64 0,.int .i64 0,.slice none 0 0] 46)
 have hp:=(Blk.made (w.alloc (.cells a.cells.toArray 63)) 56 #[.int .i64 0,.int .i64 0,.slice none 0 0]).alloc (.cells #[.int .i64 0,.int .i64 0,.int .i64 0,.int .i64 0,.int .i64 0,.int .i64 0,.slice none 0 0] 46)
 have hz:=Blk.made ((w.alloc (.cells a.cells.toArray 63)).alloc (.cells #[.int .i64 0,.int .i64 0,.slice none 0 0] 56)) 46 #[.int .i64 0,.int .i64 0,.int .i64 0,.int .i64 0,.int .i64 0,.int .i64 0,.slice none 0 0]
 have hw:Same w (((w.alloc (.cells a.cells.toArray 63)).alloc (.cells #[.int .i64 0,.int .i64 0,.slice none 0 0] 56)).alloc (.cells #[.int .i64 0,.int .i64 0,.int .i64 0,.int .i64 0,.int .i64 0,.int .i64 0,.slice none 0 0] 46)):=(((Keep.refl _ _).alloc _).alloc _).alloc _
 rw [World.size_alloc] at hp
 rw [World.size_alloc,World.size_alloc] at hz
 generalize hw1:(((w.alloc (.cells a.cells.toArray 63)).alloc (.cells #[.int .i64 0,.int .i64 0,.slice none 0 0] 56)).alloc (.cells #[.int .i64 0,.int .i64 0,.int .i64 0,.int .i64 0,.int .i64 0,.int .i64 0,.slice none 0 0] 46))=w1 at *
 have hsz:w1.heap.size=w.heap.size+3:=by rw [←hw1];simp only [World.size_alloc]
 have HM:=hid hm
 have HP:=hid hp
 have HZ:=hid hz
 have HW:=hid hw
 have HSZ:=hid hsz
 have HAV:=hid hAv
 have HEL:=hid (encM_le a.note hbl)
 have HWR:=hid (fun (W:World) (hk:Same w W)=>show Calls Tryz.prog 44 #[.agg (a.note.cells a.NA a.nc).toArray] W (NB W (encM a.note)) from rwrite_any W Av a.note a.NA a.nc (h.body.same hk))
 unfold NB at HWR
 have HSP:=hid (fun (W:World) (hk:Same w W)=>show Sl W (fun i=>Av i∨w.heap.size≤i) 1 a.PA a.sp.length (bcells a.sp) from (h.sp.wide (Av':=fun i=>Av i∨w.heap.size≤i) (fun i hi h=>h.elim id (fun e=>by omega))).same hk)
 have HSPP:=hid (show 0<a.sp.length from hq)
 have HBAE:=hid (show bodyA a=a.sp from by unfold bodyA;rw [if_pos hq])
 have HBL:=hid (show (bodyA a).length≤10000 from by rw [HBAE.out];omega)
 have HSL:=hid hsl
 have hrg:w1.rangeAt w.heap.size 5 (a.note.cells a.NA a.nc):=by
  intro j v hv
  have hj:j<7:=(List.getElem?_eq_some_iff.1 hv).1
  rw [hm.at_ (5+j),List.getElem?_toArray,←hv]
  rcases (by omega:j=0∨j=1∨j=2∨j=3∨j=4∨j=5∨j=6) with rfl | rfl | rfl | rfl | rfl | rfl | rfl <;> rfl
 have HRG:=hid hrg
 have y12:w1.cell? ⟨w.heap.size,12,none⟩=some (.int .i64 a.fr):=hm.at_ 12
 have y13:w1.cell? ⟨w.heap.size,13,none⟩=some (.int .i64 a.tt):=hm.at_ 13
 clear hm hp hz hw h hAv hbl hsz hrg
 go_enter Tryz.func64,Tryz.ntmps64
 go_upto_region 1 with fail
 try rw [hw1]
 clear hw1
 refine wp_region_held_drew (S:=fun W=>W.cell? ⟨w.heap.size,12,none⟩=some (.int .i64 a.fr)∧W.cell? ⟨w.heap.size,13,none⟩=some (.int .i64 a.tt)∧W.rangeAt w.heap.size 5 (a.note.cells a.NA a.nc)) (by kernel_rfl) ⟨y12,y13,range_same HRG.out (Keep.refl (fun _=>False) w1).drew⟩ (fun hHeld=>?_)
 refine tk 0 ?_
 refine tk 1 ?_
 refine tk 2 ?_
 refine tk 3 ?_
 refine tk 4 ?_
 refine tM 5 (.tmp 15) (w.heap.size) (5) (a.note.cells a.NA a.nc) (fun W hS=>hS.2.2) Tryz.underlying46 ?_
 have HSd:=hid (fun W (hk:Same w1.drew W)=>show W.cell? ⟨w.heap.size,12,none⟩=some (.int .i64 a.fr)∧W.cell? ⟨w.heap.size,13,none⟩=some (.int .i64 a.tt)∧W.rangeAt w.heap.size 5 (a.note.cells a.NA a.nc) from ⟨(((Keep.refl (fun _=>False) w1).drew.then hk).cell (p:=⟨w.heap.size,12,none⟩) HM.out.lt (fun f=>f)).trans y12,(((Keep.refl (fun _=>False) w1).drew.then hk).cell (p:=⟨w.heap.size,13,none⟩) HM.out.lt (fun f=>f)).trans y13,range_same HRG.out ((Keep.refl (fun _=>False) w1).drew.then hk)⟩)
 have HWd:=hid (HW.out.then (Keep.refl (fun _=>False) w1).drew)
 have HMd:=hid (HM.out.keep (Keep.refl (fun _=>False) w1).drew (fun f=>f))
 have HPd:=hid (HP.out.keep (Keep.refl (fun _=>False) w1).drew (fun f=>f))
 have HZd:=hid (HZ.out.keep (Keep.refl (fun _=>False) w1).drew (fun f=>f))
 have HSDD:=hid (show w1.drew.heap.size=w.heap.size+3 from HSZ.out)
 clear hHeld y12 y13 HRG HM HP HZ HW HSZ
 generalize w1.drew=wd at *
 apply one_restZ (F:=fun A2 c2 g W=>Blk W g 56 #[.int .i64 a.fr,.int .i64 a.tt,.slice A2 (encM a.note).length c2]∧Sl W (fun i=>i<wd.heap.size∨i=g) 1 A2 (encM a.note).length (bcells (encM a.note))∧wd.heap.size≤g∧Same wd W)
 case main =>
  intro REST
  refine wpAnyH_ready (rs:=[6,8]) (by kernel_rfl) (by simp) ?_
  refine AllReadyH.cons rfl (fun K hK=>?_) (AllReadyH.cons rfl (fun K hK=>?_) AllReadyH.nil)
  ·go_simp
   (with_reducible refine (HWR.out _ (HWd.out.then (Keep.refl (fun _=>False) wd))).mono ?_)
   rintro e9 u2 ⟨A2,c2,rfl,hs,hk⟩
   have HS2:=hid hs
   have HK2:=hid ((Keep.refl (fun _=>False) wd).then hk)
   clear hs hk
   refine hK.out _ _ (HSd.out _ HK2.out) (fun hHeld2=>?_)
   clear hK K
   refine pput ?_
   refine tk 7 ?_
   refine rd1 8 (fun K hK=>?_)
   go_simp
   have HB3:=hid (Blk.made u2 56 #[.int .i64 0,.int .i64 0,.slice none 0 0])
   have HK3:=hid (HK2.out.alloc (.cells #[.int .i64 0,.int .i64 0,.slice none 0 0] 56))
   obtain ⟨g3,hg3⟩:∃ g,g=u2.heap.size:=⟨_,rfl⟩
   have HG:=hid (show wd.heap.size≤g3 from by rw [hg3];exact HK2.out.size)
   have HSS:=hid (show Sl (u2.alloc (.cells #[.int .i64 0,.int .i64 0,.slice none 0 0] 56)) (fun i=>i<wd.heap.size∨i=g3) 1 A2 (encM a.note).length (bcells (encM a.note)) from (HS2.out.wide (Av':=fun i=>i<wd.heap.size∨i=g3) (fun i hi h=>h.elim id (fun e=>by omega))).same ((Keep.refl (fun _=>False) u2).alloc _))
   rw [←hg3] at HB3 ⊢
   clear hg3
   generalize (u2.alloc (.cells #[.int .i64 0,.int .i64 0,.slice none 0 0] 56))=u3 at *
   refine hK.out _ _ (HSd.out _ HK3.out) (fun hHeld3=>?_)
   clear hK K
   refine pput ?_
   refine rd1 9 (fun K hK=>?_)
   refine store_step rfl _ (.tmp 7) (.tmp 18) rfl g3 (#[.int .i64 a.fr,.int .i64 a.tt,.slice A2 (encM a.note).length c2]) rfl rfl _ _ (HB3.out) (by kernel_rfl) rfl (one_toArray (pk_one (⟨a.fr,a.tt,A2,c2,encM a.note⟩:PkA))) ?_
   have HKs:=hid (HK3.out.trans (Keep.row u3 g3 #[.int .i64 a.fr,.int .i64 a.tt,.slice A2 (encM a.note).length c2]) (fun j hj e=>by have e2:j=g3:=e;have h9:=HG.out;omega))
   refine hK.out _ _ (HSd.out _ HKs.out) (fun hHeld4=>?_)
   clear hK K
   refine pput ?_
   refine wpAnyH_done (by kernel_rfl) ?_ _
   refine REST A2 c2 g3 _ ⟨Blk.row (HB3.out) _,?_,HG.out,HKs.out⟩
   exact HSS.out.keep (Keep.row u3 g3 _) (fun j _ e=>.inr e)
  ·go_simp
   have HB5:=hid (Blk.made wd 56 #[.int .i64 0,.int .i64 0,.slice none 0 0])
   have HK5:=hid ((Keep.refl (fun _=>False) wd).alloc (.cells #[.int .i64 0,.int .i64 0,.slice none 0 0] 56))
   obtain ⟨g5,hg5⟩:∃ g,g=wd.heap.size:=⟨_,rfl⟩
   have HG:=hid (show wd.heap.size≤g5 from by rw [hg5];exact Nat.le_refl _)
   rw [←hg5] at HB5 ⊢
   clear hg5
   generalize (wd.alloc (.cells #[.int .i64 0,.int .i64 0,.slice none 0 0] 56))=u5 at *
   refine hK.out _ _ (HSd.out _ HK5.out) (fun hHeld5=>?_)
   clear hK K
   refine pput ?_
   refine rd1 6 (fun K hK=>?_)
   go_simp
   (with_reducible refine (HWR.out _ (HWd.out.then HK5.out)).mono ?_)
   rintro e9 u6 ⟨A2,c2,rfl,hs,hk⟩
   have HS6:=hid hs
   have HK6:=hid (HK5.out.then hk)
   have HB6:=hid (HB5.out.keep hk (fun f=>f))
   have HSS:=hid (show Sl u6 (fun i=>i<wd.heap.size∨i=g5) 1 A2 (encM a.note).length (bcells (encM a.note)) from HS6.out.wide (Av':=fun i=>i<wd.heap.size∨i=g5) (fun i hi h=>by
    have h1:=HK5.out.size
    have h2:=HB5.out.lt
    show i<u5.heap.size
    rcases h with h | h <;> omega))
   clear hs hk
   refine hK.out _ _ (HSd.out _ HK6.out) (fun hHeld6=>?_)
   clear hK K
   refine pput ?_
   refine tk 7 ?_
   refine rd1 9 (fun K hK=>?_)
   refine store_step rfl _ (.tmp 7) (.tmp 18) rfl g5 (#[.int .i64 a.fr,.int .i64 a.tt,.slice A2 (encM a.note).length c2]) rfl rfl _ _ (HB6.out) (by kernel_rfl) rfl (one_toArray (pk_one (⟨a.fr,a.tt,A2,c2,encM a.note⟩:PkA))) ?_
   have HKs:=hid (HK6.out.trans (Keep.row u6 g5 #[.int .i64 a.fr,.int .i64 a.tt,.slice A2 (encM a.note).length c2]) (fun j hj e=>by have e2:j=g5:=e;have h9:=HG.out;omega))
   refine hK.out _ _ (HSd.out _ HKs.out) (fun hHeld7=>?_)
   clear hK K
   refine pput ?_
   refine wpAnyH_done (by kernel_rfl) ?_ _
   refine REST A2 c2 g5 _ ⟨Blk.row (HB6.out) _,?_,HG.out,HKs.out⟩
   exact HSS.out.keep (Keep.row u6 g5 _) (fun j _ e=>.inr e)
 case rest =>
  intro A2 c2 g W hF
  obtain ⟨hb2,hs2,hg2,hk2⟩:=hF
  have y14:W.cell? ⟨w.heap.size,14,none⟩=some (.slice a.PA a.sp.length a.pc):=(HMd.out.keep hk2 (fun f=>f)).at_ 14
  have hsdd:=HSDD.out
  have HG:=hid (show w.heap.size+3≤g from by omega)
  have hgl:=hb2.lt
  have hpr:=HPd.out.keep hk2 (fun f=>f)
  have hzr:=HZd.out.keep hk2 (fun f=>f)
  obtain ⟨w3,hw3⟩:∃ x,x=W.setCell ⟨g,2,none⟩ (.slice a.PA a.sp.length a.pc):=⟨_,rfl⟩
  have d0:decide ((0:Int)<(a.sp.length:Int))=true:=decide_eq_true (by have:=HSPP.out;omega)
  have g2c:W.cell? ⟨g,2,none⟩=some (.slice A2 (encM a.note).length c2):=hb2.at_ 2
  have g2f:=hb2.free 2
  go_upto_region 4 with fail
  try rw [←hw3]
  have hkp:Keep (fun j=>j=g) W w3:=by rw [hw3];exact (Keep.refl _ _).put 2 _
  have HB3:=hid (show Blk w3 g 56 #[.int .i64 a.fr,.int .i64 a.tt,.slice a.PA (bodyA a).length a.pc] from by
   rw [HBAE.out,hw3]
   exact hb2.put 2 (.slice a.PA a.sp.length a.pc))
  have HPR:=hid (hpr.keep hkp (fun e=>by have e2:w.heap.size+1=g:=e;have:=HG.out;omega))
  have HZR:=hid (hzr.keep hkp (fun e=>by have e2:w.heap.size+1+1=g:=e;have:=HG.out;omega))
  have HK3:=hid ((HWd.out.then hk2).trans hkp (fun j hj e=>by have e2:j=g:=e;have:=HG.out;omega))
  have HS3:=hid (show Sl w3 (fun i=>Av i∨i=w.heap.size+1∨i=w.heap.size+1+1) 1 a.PA (bodyA a).length (bcells (bodyA a)) from by
   rw [HBAE.out]
   refine ((HSP.out W (HWd.out.then hk2)).keep hkp (fun j _ e=>.inr (by have e2:j=g:=e;have:=HG.out;omega))).wide (fun j _ hj=>?_)
   rcases hj with hj | hj | hj
   ·exact .inl hj
   ·exact .inr (by omega)
   ·exact .inr (by omega))
  have HG3:=hid (show g<w3.heap.size from HB3.out.lt)
  obtain ⟨C,hC⟩:∃ C,C=a.PA:=⟨_,rfl⟩
  obtain ⟨cc,hcc⟩:∃ cc,cc=a.pc:=⟨_,rfl⟩
  rw [←hC,←hcc] at HB3
  rw [←hC] at HS3
  clear hC hcc hw3 hkp g2c g2f y14 hb2 hs2 hg2 hk2 hpr hzr hsdd hgl HMd HPd HZd HSd HWR
  have HDE:=hid (decode_any w3 C (bodyA a).length cc (bodyA a) (HS3.out.wide (fun _ _ f=>f.elim)) (by have:=HBL.out;omega))
  unfold DecP at HDE
  have y2:w3.cell? ⟨g,2,none⟩=some (.slice C (bodyA a).length cc):=HB3.out.at_ 2
  generalize hbA:bodyA a=bA at *
  have HOK:=hid (show okL a place=decide (errM bA=0∧a.tt=place∧a.fr=(rawM bA).c∧0≤a.fr∧a.fr<place) from by unfold okL;rw [hbA])
  have HBA:=hid hbA
  clear hbA
  by_cases e0:errM bA=0
  ·have HD:=hid (show Calls Tryz.prog 23 #[.slice C bA.length cc] w3 (fun e w'=>∃ B c,e=.returned (.tuple #[.agg ((rawM bA).cells B c).toArray,.int .i64 0])∧Sl w' (· < w3.heap.size) 1 B (rawM bA).body.length (bcells (rawM bA).body)∧Same w3 w') from HDE.out.mono (fun e w' hh=>by obtain ⟨B,c,h1,h2⟩:=hh.2.1 e0;exact ⟨B,c,h1,h2,hh.1⟩))
   have E0:=hid e0
   clear e0 HDE
   obtain ⟨m,hm⟩:∃ m,m=rawM bA:=⟨_,rfl⟩
   rw [←hm] at HD HOK
   have HMR:=hid hm
   clear hm
   go_upto_region 6 with (go_at_call 23;(with_reducible refine HD.out.mono ?_);rintro e9 w4 ⟨B,bc,rfl,hs4,hk4⟩;have HS4:=hid hs4;have HK4:=hid hk4;rw [show (m.cells B bc).toArray=#[.int .i64 m.k,.int .i64 m.call,.int .i64 m.d,.int .i64 m.c,.int .i64 m.e,.int .i64 m.n,.slice B m.body.length bc] from rfl];clear hs4 hk4)
   have hgm:=(Blk.made w4 66 #[.int .i64 m.k,.int .i64 m.call,.int .i64 m.d,.int .i64 m.c,.int .i64 m.e,.int .i64 m.n,.slice B m.body.length bc]).alloc (.cells #[.int .i64 m.k,.int .i64 m.call,.int .i64 m.d,.int .i64 m.c,.int .i64 m.e,.int .i64 m.n,.slice B m.body.length bc] 46)
   have hgn:=Blk.made (w4.alloc (.cells #[.int .i64 m.k,.int .i64 m.call,.int .i64 m.d,.int .i64 m.c,.int .i64 m.e,.int .i64 m.n,.slice B m.body.length bc] 66)) 46 #[.int .i64 m.k,.int .i64 m.call,.int .i64 m.d,.int .i64 m.c,.int .i64 m.e,.int .i64 m.n,.slice B m.body.length bc]
   rw [World.size_alloc] at hgn
   have hk6:Same w4 ((w4.alloc (.cells #[.int .i64 m.k,.int .i64 m.call,.int .i64 m.d,.int .i64 m.c,.int .i64 m.e,.int .i64 m.n,.slice B m.body.length bc] 66)).alloc (.cells #[.int .i64 m.k,.int .i64 m.call,.int .i64 m.d,.int .i64 m.c,.int .i64 m.e,.int .i64 m.n,.slice B m.body.length bc] 46)):=((Keep.refl _ _).alloc _).alloc _
   have HPK:=hid ((HB3.out.keep HK4.out (fun f=>f)).keep hk6 (fun f=>f))
   have HPR6:=hid ((HPR.out.keep HK4.out (fun f=>f)).keep hk6 (fun f=>f))
   have HZR6:=hid ((HZR.out.keep HK4.out (fun f=>f)).keep hk6 (fun f=>f))
   have HW6:=hid ((HK3.out.then HK4.out).then hk6)
   have HC6:=hid ((HS3.out.same HK4.out).same hk6)
   have HB6:=hid (HS4.out.same hk6)
   have h34:=HK4.out.size
   have hg3:=HG3.out
   obtain ⟨gm,hgmd⟩:∃ x,x=w4.heap.size:=⟨_,rfl⟩
   rw [←hgmd] at hgm hgn ⊢
   have HGM:=hid (show g<gm from by omega)
   clear hk6 hgmd h34 hg3
   generalize ((w4.alloc (.cells #[.int .i64 m.k,.int .i64 m.call,.int .i64 m.d,.int .i64 m.c,.int .i64 m.e,.int .i64 m.n,.slice B m.body.length bc] 66)).alloc (.cells #[.int .i64 m.k,.int .i64 m.call,.int .i64 m.d,.int .i64 m.c,.int .i64 m.e,.int .i64 m.n,.slice B m.body.length bc] 46))=w6 at *
   have p1:w6.cell? ⟨g,1,none⟩=some (.int .i64 a.tt):=HPK.out.at_ 1
   have p0:w6.cell? ⟨g,0,none⟩=some (.int .i64 a.fr):=HPK.out.at_ 0
   have m3:w6.cell? ⟨gm,3,none⟩=some (.int .i64 m.c):=hgm.at_ 3
   have HGN:=hid hgn
   clear hgn hgm
   by_cases ct:a.tt=place
   ·have dt:(a.tt == place)=true:=by simp [ct]
    by_cases cf:a.fr=m.c
    ·have df:(a.fr == m.c)=true:=by simp [cf]
     by_cases cn:0≤a.fr
     ·have dn:decide (0≤a.fr)=true:=decide_eq_true cn
      by_cases cp:a.fr<place
      ·have dp:decide (a.fr<place)=true:=decide_eq_true cp
       have HNO:=hid (show okL a place=true from by rw [HOK.out];exact decide_eq_true ⟨E0.out,ct,cf,cn,cp⟩)
       clear ct cf cn cp
       as_aux_lemma =>
       refine wp_region_held_drew (S:=fun W=>Blk W g 56 #[.int .i64 a.fr,.int .i64 a.tt,.slice C bA.length cc]∧Blk W (gm+1) 46 #[.int .i64 m.k,.int .i64 m.call,.int .i64 m.d,.int .i64 m.c,.int .i64 m.e,.int .i64 m.n,.slice B m.body.length bc]∧W.cell? ⟨g,1,none⟩=some (.int .i64 a.tt)∧W.cell? ⟨g,0,none⟩=some (.int .i64 a.fr)∧W.cell? ⟨gm,3,none⟩=some (.int .i64 m.c)) (by kernel_rfl) ⟨HPK.out,HGN.out,p1,p0,m3⟩ (fun hHeld=>?_)
       refine tL 0 (.tmp 7) (g) 56 (#[.int .i64 a.fr,.int .i64 a.tt,.slice C bA.length cc]) (fun W hS=>hS.1) Tryz.underlying56 ?_
       refine tL 1 (.tmp 10) (gm+1) 46 (#[.int .i64 m.k,.int .i64 m.call,.int .i64 m.d,.int .i64 m.c,.int .i64 m.e,.int .i64 m.n,.slice B m.body.length bc]) (fun W hS=>hS.2.1) Tryz.underlying46 ?_
       refine tk 2 ?_
       refine tk 3 ?_
       refine tk 4 ?_
       refine tk 5 ?_
       refine tk 6 ?_
       refine tk 7 ?_
       refine tk 8 ?_
       refine tk 9 ?_
       refine tk 10 ?_
       refine tk 11 ?_
       refine tk 12 ?_
       refine tk 13 ?_
       refine tk 14 ?_
       refine tk 15 ?_
       refine tk 16 ?_
       refine tk 17 ?_
       refine tk 18 ?_
       refine tk 19 ?_
       refine tk 20 ?_
       refine tk 21 ?_
       refine tk 22 ?_
       refine tk 23 ?_
       refine tk 24 ?_
       refine tk 25 ?_
       refine tk 26 ?_
       refine tk 27 ?_
       have hkd:Same w6 w6.drew:=(Keep.refl (fun _=>False) w6).drew
       have HPKd:=hid (HPK.out.keep hkd (fun f=>f))
       have HGNd:=hid (HGN.out.keep hkd (fun f=>f))
       have HPRd:=hid (HPR6.out.keep hkd (fun f=>f))
       have HZRd:=hid (HZR6.out.keep hkd (fun f=>f))
       have HWd6:=hid (HW6.out.then hkd)
       have HCd:=hid (HC6.out.same hkd)
       have HBd:=hid (HB6.out.same hkd)
       have HCL:=hid (fun W (S2:Nat→Prop) (hk:Keep S2 w6.drew W) (h1:¬S2 g) (h2:¬S2 (gm+1)) (h3:¬S2 gm)=>show Blk W g 56 #[.int .i64 a.fr,.int .i64 a.tt,.slice C bA.length cc]∧Blk W (gm+1) 46 #[.int .i64 m.k,.int .i64 m.call,.int .i64 m.d,.int .i64 m.c,.int .i64 m.e,.int .i64 m.n,.slice B m.body.length bc]∧W.cell? ⟨g,1,none⟩=some (.int .i64 a.tt)∧W.cell? ⟨g,0,none⟩=some (.int .i64 a.fr)∧W.cell? ⟨gm,3,none⟩=some (.int .i64 m.c) from
        ⟨HPKd.out.keep hk h1,HGNd.out.keep hk h2,(hk.cell (p:=⟨g,1,none⟩) HPKd.out.lt h1).trans p1,(hk.cell (p:=⟨g,0,none⟩) HPKd.out.lt h1).trans p0,(hk.cell (p:=⟨gm,3,none⟩) (by have:=HGNd.out.lt;show gm<_;omega) h3).trans m3⟩)
       clear hHeld p1 p0 m3 HPK HGN HPR6 HZR6 HW6 HC6 hkd
       generalize w6.drew=wx at *
       have hgg:=HG.out
       have hgm9:=HGM.out
       refine rd1 28 (fun K hK=>?_)
       refine store_step rfl _ (.tmp 4) (.tmp 47) rfl (w.heap.size+1) #[.int .i64 a.fr,.int .i64 a.tt,.slice C bA.length cc] rfl rfl _ _ HPRd.out (by kernel_rfl) rfl (one_toArray (pk_one (⟨a.fr,a.tt,C,cc,bA⟩:PkA))) ?_
       have hka:Keep (fun j=>j=w.heap.size+1) wx (wx.setRow (w.heap.size+1) #[.int .i64 a.fr,.int .i64 a.tt,.slice C bA.length cc]):=Keep.row _ _ _
       refine hK.out _ _ (HCL.out _ _ hka (fun e=>by have e2:g=w.heap.size+1:=e;omega) (fun e=>by have e2:gm+1=w.heap.size+1:=e;omega) (fun e=>by have e2:gm=w.heap.size+1:=e;omega)) (fun hHeld28=>?_)
       clear hK K
       refine pput ?_
       have HPRa:=hid (HPRd.out.row #[.int .i64 a.fr,.int .i64 a.tt,.slice C bA.length cc])
       have HZRa:=hid (HZRd.out.keep hka (fun e=>by have e2:w.heap.size+1+1=w.heap.size+1:=e;omega))
       generalize (wx.setRow (w.heap.size+1) #[.int .i64 a.fr,.int .i64 a.tt,.slice C bA.length cc])=wy at *
       refine rd1 29 (fun K hK=>?_)
       refine store_step rfl _ (.tmp 5) (.tmp 48) rfl (w.heap.size+1+1) #[.int .i64 m.k,.int .i64 m.call,.int .i64 m.d,.int .i64 m.c,.int .i64 m.e,.int .i64 m.n,.slice B m.body.length bc] rfl rfl _ _ HZRa.out (by kernel_rfl) rfl ((nt_one m B bc)) ?_
       have hkb:Keep (fun j=>j=w.heap.size+1+1) wy (wy.setRow (w.heap.size+1+1) #[.int .i64 m.k,.int .i64 m.call,.int .i64 m.d,.int .i64 m.c,.int .i64 m.e,.int .i64 m.n,.slice B m.body.length bc]):=Keep.row _ _ _
       have hkc:Keep (fun j=>j=w.heap.size+1∨j=w.heap.size+1+1) wx (wy.setRow (w.heap.size+1+1) #[.int .i64 m.k,.int .i64 m.call,.int .i64 m.d,.int .i64 m.c,.int .i64 m.e,.int .i64 m.n,.slice B m.body.length bc]):=(hka.wide (fun _ _ e=>.inl e)).trans hkb (fun _ _ e=>.inr e)
       refine hK.out _ _ (HCL.out _ _ hkc (fun e=>by rcases e with e | e <;> omega) (fun e=>by rcases e with e | e <;> omega) (fun e=>by rcases e with e | e <;> omega)) (fun hHeld29=>?_)
       clear hK K
       refine pput ?_
       have HPRb:=hid (HPRa.out.keep hkb (fun e=>by have e2:w.heap.size+1=w.heap.size+1+1:=e;omega))
       have HZRb:=hid (HZRa.out.row #[.int .i64 m.k,.int .i64 m.call,.int .i64 m.d,.int .i64 m.c,.int .i64 m.e,.int .i64 m.n,.slice B m.body.length bc])
       have HWf:=hid (HWd6.out.trans hkc (fun j hj e=>by rcases e with e | e <;> omega))
       have HCf:=hid (HCd.out.keep hkc (fun j _ e=>.inr e))
       have HBf:=hid (HBd.out.keep hkc (fun j _ e=>by have h1:=HK3.out.size;have h2:=HG3.out;have h3:=HG.out;show j<w3.heap.size;rcases e with e | e <;> omega))
       generalize (wy.setRow (w.heap.size+1+1) #[.int .i64 m.k,.int .i64 m.call,.int .i64 m.d,.int .i64 m.c,.int .i64 m.e,.int .i64 m.n,.slice B m.body.length bc])=wz at *
       clear hka hkb hkc
       refine tk 30 ?_
       refine wpAnyH_done (by kernel_rfl) ?_ _
       go_wp2_with fail
       refine bodyPost_ret (results_cell2_tmp rfl _ _ _ _ _ _ _ _ _ _ _ _ _ rfl rfl rfl HPRb.out HZRb.out Tryz.underlying56 rfl (by kernel_rfl) Tryz.underlying46 rfl (by kernel_rfl)) rfl ?_
       refine ⟨C,cc,#[.int .i64 m.k,.int .i64 m.call,.int .i64 m.d,.int .i64 m.c,.int .i64 m.e,.int .i64 m.n,.slice B m.body.length bc],?_,?_,rfl,(nt_one m B bc),?_,HWf.out⟩
       ·rw [HNO.out,HBA.out];rfl
       ·rw [HBA.out];exact HCf.out.wide (fun _ _ h=>.inl h)
       ·intro _
        rw [HBA.out,←HMR.out]
        exact ⟨B,bc,rfl,HBf.out.wide (fun i _ h=>by have h1:=HAV.out i h;have h2:=HK3.out.size;show i<w3.heap.size;omega)⟩
      ·have dp:decide (a.fr<place)=false:=decide_eq_false cp
       have HNO:=hid (show okL a place=false from by rw [HOK.out];exact decide_eq_false (fun h=>cp h.2.2.2.2))
       clear ct cf cn cp
       as_aux_lemma =>
       refine wp_region_held_drew (S:=fun W=>Blk W g 56 #[.int .i64 a.fr,.int .i64 a.tt,.slice C bA.length cc]∧Blk W (gm+1) 46 #[.int .i64 m.k,.int .i64 m.call,.int .i64 m.d,.int .i64 m.c,.int .i64 m.e,.int .i64 m.n,.slice B m.body.length bc]∧W.cell? ⟨g,1,none⟩=some (.int .i64 a.tt)∧W.cell? ⟨g,0,none⟩=some (.int .i64 a.fr)∧W.cell? ⟨gm,3,none⟩=some (.int .i64 m.c)) (by kernel_rfl) ⟨HPK.out,HGN.out,p1,p0,m3⟩ (fun hHeld=>?_)
       refine tL 0 (.tmp 7) (g) 56 (#[.int .i64 a.fr,.int .i64 a.tt,.slice C bA.length cc]) (fun W hS=>hS.1) Tryz.underlying56 ?_
       refine tL 1 (.tmp 10) (gm+1) 46 (#[.int .i64 m.k,.int .i64 m.call,.int .i64 m.d,.int .i64 m.c,.int .i64 m.e,.int .i64 m.n,.slice B m.body.length bc]) (fun W hS=>hS.2.1) Tryz.underlying46 ?_
       refine tk 2 ?_
       refine tk 3 ?_
       refine tk 4 ?_
       refine tk 5 ?_
       refine tk 6 ?_
       refine tk 7 ?_
       refine tk 8 ?_
       refine tk 9 ?_
       refine tk 10 ?_
       refine tk 11 ?_
       refine tk 12 ?_
       refine tk 13 ?_
       refine tk 14 ?_
       refine tk 15 ?_
       refine tk 16 ?_
       refine tk 17 ?_
       refine tk 18 ?_
       refine tk 19 ?_
       refine tk 20 ?_
       refine tk 21 ?_
       refine tk 22 ?_
       refine tk 23 ?_
       refine tk 24 ?_
       refine tk 25 ?_
       refine tk 26 ?_
       refine tk 27 ?_
       have hkd:Same w6 w6.drew:=(Keep.refl (fun _=>False) w6).drew
       have HPKd:=hid (HPK.out.keep hkd (fun f=>f))
       have HGNd:=hid (HGN.out.keep hkd (fun f=>f))
       have HPRd:=hid (HPR6.out.keep hkd (fun f=>f))
       have HZRd:=hid (HZR6.out.keep hkd (fun f=>f))
       have HWd6:=hid (HW6.out.then hkd)
       have HCd:=hid (HC6.out.same hkd)
       have HBd:=hid (HB6.out.same hkd)
       have HCL:=hid (fun W (S2:Nat→Prop) (hk:Keep S2 w6.drew W) (h1:¬S2 g) (h2:¬S2 (gm+1)) (h3:¬S2 gm)=>show Blk W g 56 #[.int .i64 a.fr,.int .i64 a.tt,.slice C bA.length cc]∧Blk W (gm+1) 46 #[.int .i64 m.k,.int .i64 m.call,.int .i64 m.d,.int .i64 m.c,.int .i64 m.e,.int .i64 m.n,.slice B m.body.length bc]∧W.cell? ⟨g,1,none⟩=some (.int .i64 a.tt)∧W.cell? ⟨g,0,none⟩=some (.int .i64 a.fr)∧W.cell? ⟨gm,3,none⟩=some (.int .i64 m.c) from
        ⟨HPKd.out.keep hk h1,HGNd.out.keep hk h2,(hk.cell (p:=⟨g,1,none⟩) HPKd.out.lt h1).trans p1,(hk.cell (p:=⟨g,0,none⟩) HPKd.out.lt h1).trans p0,(hk.cell (p:=⟨gm,3,none⟩) (by have:=HGNd.out.lt;show gm<_;omega) h3).trans m3⟩)
       clear hHeld p1 p0 m3 HPK HGN HPR6 HZR6 HW6 HC6 hkd
       generalize w6.drew=wx at *
       have hgg:=HG.out
       have hgm9:=HGM.out
       refine rd1 28 (fun K hK=>?_)
       refine store_step rfl _ (.tmp 4) (.tmp 47) rfl (w.heap.size+1) #[.int .i64 a.fr,.int .i64 a.tt,.slice C bA.length cc] rfl rfl _ _ HPRd.out (by kernel_rfl) rfl (one_toArray (pk_one (⟨a.fr,a.tt,C,cc,bA⟩:PkA))) ?_
       have hka:Keep (fun j=>j=w.heap.size+1) wx (wx.setRow (w.heap.size+1) #[.int .i64 a.fr,.int .i64 a.tt,.slice C bA.length cc]):=Keep.row _ _ _
       refine hK.out _ _ (HCL.out _ _ hka (fun e=>by have e2:g=w.heap.size+1:=e;omega) (fun e=>by have e2:gm+1=w.heap.size+1:=e;omega) (fun e=>by have e2:gm=w.heap.size+1:=e;omega)) (fun hHeld28=>?_)
       clear hK K
       refine pput ?_
       have HPRa:=hid (HPRd.out.row #[.int .i64 a.fr,.int .i64 a.tt,.slice C bA.length cc])
       have HZRa:=hid (HZRd.out.keep hka (fun e=>by have e2:w.heap.size+1+1=w.heap.size+1:=e;omega))
       generalize (wx.setRow (w.heap.size+1) #[.int .i64 a.fr,.int .i64 a.tt,.slice C bA.length cc])=wy at *
       refine rd1 29 (fun K hK=>?_)
       refine store_step rfl _ (.tmp 5) (.tmp 48) rfl (w.heap.size+1+1) #[.int .i64 m.k,.int .i64 m.call,.int .i64 m.d,.int .i64 m.c,.int .i64 m.e,.int .i64 m.n,.slice B m.body.length bc] rfl rfl _ _ HZRa.out (by kernel_rfl) rfl ((nt_one m B bc)) ?_
       have hkb:Keep (fun j=>j=w.heap.size+1+1) wy (wy.setRow (w.heap.size+1+1) #[.int .i64 m.k,.int .i64 m.call,.int .i64 m.d,.int .i64 m.c,.int .i64 m.e,.int .i64 m.n,.slice B m.body.length bc]):=Keep.row _ _ _
       have hkc:Keep (fun j=>j=w.heap.size+1∨j=w.heap.size+1+1) wx (wy.setRow (w.heap.size+1+1) #[.int .i64 m.k,.int .i64 m.call,.int .i64 m.d,.int .i64 m.c,.int .i64 m.e,.int .i64 m.n,.slice B m.body.length bc]):=(hka.wide (fun _ _ e=>.inl e)).trans hkb (fun _ _ e=>.inr e)
       refine hK.out _ _ (HCL.out _ _ hkc (fun e=>by rcases e with e | e <;> omega) (fun e=>by rcases e with e | e <;> omega) (fun e=>by rcases e with e | e <;> omega)) (fun hHeld29=>?_)
       clear hK K
       refine pput ?_
       have HPRb:=hid (HPRa.out.keep hkb (fun e=>by have e2:w.heap.size+1=w.heap.size+1+1:=e;omega))
       have HZRb:=hid (HZRa.out.row #[.int .i64 m.k,.int .i64 m.call,.int .i64 m.d,.int .i64 m.c,.int .i64 m.e,.int .i64 m.n,.slice B m.body.length bc])
       have HWf:=hid (HWd6.out.trans hkc (fun j hj e=>by rcases e with e | e <;> omega))
       have HCf:=hid (HCd.out.keep hkc (fun j _ e=>.inr e))
       have HBf:=hid (HBd.out.keep hkc (fun j _ e=>by have h1:=HK3.out.size;have h2:=HG3.out;have h3:=HG.out;show j<w3.heap.size;rcases e with e | e <;> omega))
       generalize (wy.setRow (w.heap.size+1+1) #[.int .i64 m.k,.int .i64 m.call,.int .i64 m.d,.int .i64 m.c,.int .i64 m.e,.int .i64 m.n,.slice B m.body.length bc])=wz at *
       clear hka hkb hkc
       refine tk 30 ?_
       refine wpAnyH_done (by kernel_rfl) ?_ _
       go_wp2_with fail
       refine bodyPost_ret (results_cell2_tmp rfl _ _ _ _ _ _ _ _ _ _ _ _ _ rfl rfl rfl HPRb.out HZRb.out Tryz.underlying56 rfl (by kernel_rfl) Tryz.underlying46 rfl (by kernel_rfl)) rfl ?_
       refine ⟨C,cc,#[.int .i64 m.k,.int .i64 m.call,.int .i64 m.d,.int .i64 m.c,.int .i64 m.e,.int .i64 m.n,.slice B m.body.length bc],?_,?_,rfl,(nt_one m B bc),?_,HWf.out⟩
       ·rw [HNO.out,HBA.out];rfl
       ·rw [HBA.out];exact HCf.out.wide (fun _ _ h=>.inl h)
       ·intro h
        rw [HNO.out] at h;cases h
     ·have dn:decide (0≤a.fr)=false:=decide_eq_false cn
      have HNO:=hid (show okL a place=false from by rw [HOK.out];exact decide_eq_false (fun h=>cn h.2.2.2.1))
      clear ct cf cn
      as_aux_lemma =>
      refine wp_region_held_drew (S:=fun W=>Blk W g 56 #[.int .i64 a.fr,.int .i64 a.tt,.slice C bA.length cc]∧Blk W (gm+1) 46 #[.int .i64 m.k,.int .i64 m.call,.int .i64 m.d,.int .i64 m.c,.int .i64 m.e,.int .i64 m.n,.slice B m.body.length bc]∧W.cell? ⟨g,1,none⟩=some (.int .i64 a.tt)∧W.cell? ⟨g,0,none⟩=some (.int .i64 a.fr)∧W.cell? ⟨gm,3,none⟩=some (.int .i64 m.c)) (by kernel_rfl) ⟨HPK.out,HGN.out,p1,p0,m3⟩ (fun hHeld=>?_)
      refine tL 0 (.tmp 7) (g) 56 (#[.int .i64 a.fr,.int .i64 a.tt,.slice C bA.length cc]) (fun W hS=>hS.1) Tryz.underlying56 ?_
      refine tL 1 (.tmp 10) (gm+1) 46 (#[.int .i64 m.k,.int .i64 m.call,.int .i64 m.d,.int .i64 m.c,.int .i64 m.e,.int .i64 m.n,.slice B m.body.length bc]) (fun W hS=>hS.2.1) Tryz.underlying46 ?_
      refine tk 2 ?_
      refine tk 3 ?_
      refine tk 4 ?_
      refine tk 5 ?_
      refine tk 6 ?_
      refine tk 7 ?_
      refine tk 8 ?_
      refine tk 9 ?_
      refine tk 10 ?_
      refine tk 11 ?_
      refine tk 12 ?_
      refine tk 13 ?_
      refine tk 14 ?_
      refine tk 15 ?_
      refine tk 16 ?_
      refine tk 17 ?_
      refine tk 18 ?_
      refine tk 19 ?_
      refine tk 20 ?_
      refine tk 21 ?_
      refine tk 22 ?_
      refine tu 23 ?_
      refine tu 24 ?_
      refine tu 25 ?_
      refine tu 26 ?_
      refine tk 27 ?_
      have hkd:Same w6 w6.drew:=(Keep.refl (fun _=>False) w6).drew
      have HPKd:=hid (HPK.out.keep hkd (fun f=>f))
      have HGNd:=hid (HGN.out.keep hkd (fun f=>f))
      have HPRd:=hid (HPR6.out.keep hkd (fun f=>f))
      have HZRd:=hid (HZR6.out.keep hkd (fun f=>f))
      have HWd6:=hid (HW6.out.then hkd)
      have HCd:=hid (HC6.out.same hkd)
      have HBd:=hid (HB6.out.same hkd)
      have HCL:=hid (fun W (S2:Nat→Prop) (hk:Keep S2 w6.drew W) (h1:¬S2 g) (h2:¬S2 (gm+1)) (h3:¬S2 gm)=>show Blk W g 56 #[.int .i64 a.fr,.int .i64 a.tt,.slice C bA.length cc]∧Blk W (gm+1) 46 #[.int .i64 m.k,.int .i64 m.call,.int .i64 m.d,.int .i64 m.c,.int .i64 m.e,.int .i64 m.n,.slice B m.body.length bc]∧W.cell? ⟨g,1,none⟩=some (.int .i64 a.tt)∧W.cell? ⟨g,0,none⟩=some (.int .i64 a.fr)∧W.cell? ⟨gm,3,none⟩=some (.int .i64 m.c) from
       ⟨HPKd.out.keep hk h1,HGNd.out.keep hk h2,(hk.cell (p:=⟨g,1,none⟩) HPKd.out.lt h1).trans p1,(hk.cell (p:=⟨g,0,none⟩) HPKd.out.lt h1).trans p0,(hk.cell (p:=⟨gm,3,none⟩) (by have:=HGNd.out.lt;show gm<_;omega) h3).trans m3⟩)
      clear hHeld p1 p0 m3 HPK HGN HPR6 HZR6 HW6 HC6 hkd
      generalize w6.drew=wx at *
      have hgg:=HG.out
      have hgm9:=HGM.out
      refine rd1 28 (fun K hK=>?_)
      refine store_step rfl _ (.tmp 4) (.tmp 47) rfl (w.heap.size+1) #[.int .i64 a.fr,.int .i64 a.tt,.slice C bA.length cc] rfl rfl _ _ HPRd.out (by kernel_rfl) rfl (one_toArray (pk_one (⟨a.fr,a.tt,C,cc,bA⟩:PkA))) ?_
      have hka:Keep (fun j=>j=w.heap.size+1) wx (wx.setRow (w.heap.size+1) #[.int .i64 a.fr,.int .i64 a.tt,.slice C bA.length cc]):=Keep.row _ _ _
      refine hK.out _ _ (HCL.out _ _ hka (fun e=>by have e2:g=w.heap.size+1:=e;omega) (fun e=>by have e2:gm+1=w.heap.size+1:=e;omega) (fun e=>by have e2:gm=w.heap.size+1:=e;omega)) (fun hHeld28=>?_)
      clear hK K
      refine pput ?_
      have HPRa:=hid (HPRd.out.row #[.int .i64 a.fr,.int .i64 a.tt,.slice C bA.length cc])
      have HZRa:=hid (HZRd.out.keep hka (fun e=>by have e2:w.heap.size+1+1=w.heap.size+1:=e;omega))
      generalize (wx.setRow (w.heap.size+1) #[.int .i64 a.fr,.int .i64 a.tt,.slice C bA.length cc])=wy at *
      refine rd1 29 (fun K hK=>?_)
      refine store_step rfl _ (.tmp 5) (.tmp 48) rfl (w.heap.size+1+1) #[.int .i64 m.k,.int .i64 m.call,.int .i64 m.d,.int .i64 m.c,.int .i64 m.e,.int .i64 m.n,.slice B m.body.length bc] rfl rfl _ _ HZRa.out (by kernel_rfl) rfl ((nt_one m B bc)) ?_
      have hkb:Keep (fun j=>j=w.heap.size+1+1) wy (wy.setRow (w.heap.size+1+1) #[.int .i64 m.k,.int .i64 m.call,.int .i64 m.d,.int .i64 m.c,.int .i64 m.e,.int .i64 m.n,.slice B m.body.length bc]):=Keep.row _ _ _
      have hkc:Keep (fun j=>j=w.heap.size+1∨j=w.heap.size+1+1) wx (wy.setRow (w.heap.size+1+1) #[.int .i64 m.k,.int .i64 m.call,.int .i64 m.d,.int .i64 m.c,.int .i64 m.e,.int .i64 m.n,.slice B m.body.length bc]):=(hka.wide (fun _ _ e=>.inl e)).trans hkb (fun _ _ e=>.inr e)
      refine hK.out _ _ (HCL.out _ _ hkc (fun e=>by rcases e with e | e <;> omega) (fun e=>by rcases e with e | e <;> omega) (fun e=>by rcases e with e | e <;> omega)) (fun hHeld29=>?_)
      clear hK K
      refine pput ?_
      have HPRb:=hid (HPRa.out.keep hkb (fun e=>by have e2:w.heap.size+1=w.heap.size+1+1:=e;omega))
      have HZRb:=hid (HZRa.out.row #[.int .i64 m.k,.int .i64 m.call,.int .i64 m.d,.int .i64 m.c,.int .i64 m.e,.int .i64 m.n,.slice B m.body.length bc])
      have HWf:=hid (HWd6.out.trans hkc (fun j hj e=>by rcases e with e | e <;> omega))
      have HCf:=hid (HCd.out.keep hkc (fun j _ e=>.inr e))
      have HBf:=hid (HBd.out.keep hkc (fun j _ e=>by have h1:=HK3.out.size;have h2:=HG3.out;have h3:=HG.out;show j<w3.heap.size;rcases e with e | e <;> omega))
      generalize (wy.setRow (w.heap.size+1+1) #[.int .i64 m.k,.int .i64 m.call,.int .i64 m.d,.int .i64 m.c,.int .i64 m.e,.int .i64 m.n,.slice B m.body.length bc])=wz at *
      clear hka hkb hkc
      refine tk 30 ?_
      refine wpAnyH_done (by kernel_rfl) ?_ _
      go_wp2_with fail
      refine bodyPost_ret (results_cell2_tmp rfl _ _ _ _ _ _ _ _ _ _ _ _ _ rfl rfl rfl HPRb.out HZRb.out Tryz.underlying56 rfl (by kernel_rfl) Tryz.underlying46 rfl (by kernel_rfl)) rfl ?_
      refine ⟨C,cc,#[.int .i64 m.k,.int .i64 m.call,.int .i64 m.d,.int .i64 m.c,.int .i64 m.e,.int .i64 m.n,.slice B m.body.length bc],?_,?_,rfl,(nt_one m B bc),?_,HWf.out⟩
      ·rw [HNO.out,HBA.out];rfl
      ·rw [HBA.out];exact HCf.out.wide (fun _ _ h=>.inl h)
      ·intro h
       rw [HNO.out] at h;cases h
    ·have df:(a.fr == m.c)=false:=by simpa using cf
     have HNO:=hid (show okL a place=false from by rw [HOK.out];exact decide_eq_false (fun h=>cf h.2.2.1))
     clear ct cf
     as_aux_lemma =>
     refine wp_region_held_drew (S:=fun W=>Blk W g 56 #[.int .i64 a.fr,.int .i64 a.tt,.slice C bA.length cc]∧Blk W (gm+1) 46 #[.int .i64 m.k,.int .i64 m.call,.int .i64 m.d,.int .i64 m.c,.int .i64 m.e,.int .i64 m.n,.slice B m.body.length bc]∧W.cell? ⟨g,1,none⟩=some (.int .i64 a.tt)∧W.cell? ⟨g,0,none⟩=some (.int .i64 a.fr)∧W.cell? ⟨gm,3,none⟩=some (.int .i64 m.c)) (by kernel_rfl) ⟨HPK.out,HGN.out,p1,p0,m3⟩ (fun hHeld=>?_)
     refine tL 0 (.tmp 7) (g) 56 (#[.int .i64 a.fr,.int .i64 a.tt,.slice C bA.length cc]) (fun W hS=>hS.1) Tryz.underlying56 ?_
     refine tL 1 (.tmp 10) (gm+1) 46 (#[.int .i64 m.k,.int .i64 m.call,.int .i64 m.d,.int .i64 m.c,.int .i64 m.e,.int .i64 m.n,.slice B m.body.length bc]) (fun W hS=>hS.2.1) Tryz.underlying46 ?_
     refine tk 2 ?_
     refine tk 3 ?_
     refine tk 4 ?_
     refine tk 5 ?_
     refine tk 6 ?_
     refine tk 7 ?_
     refine tk 8 ?_
     refine tk 9 ?_
     refine tk 10 ?_
     refine tk 11 ?_
     refine tk 12 ?_
     refine tk 13 ?_
     refine tk 14 ?_
     refine tk 15 ?_
     refine tk 16 ?_
     refine tk 17 ?_
     refine tu 18 ?_
     refine tu 19 ?_
     refine tu 20 ?_
     refine tk 21 ?_
     refine tk 22 ?_
     refine tu 23 ?_
     refine tu 24 ?_
     refine tu 25 ?_
     refine tu 26 ?_
     refine tk 27 ?_
     have hkd:Same w6 w6.drew:=(Keep.refl (fun _=>False) w6).drew
     have HPKd:=hid (HPK.out.keep hkd (fun f=>f))
     have HGNd:=hid (HGN.out.keep hkd (fun f=>f))
     have HPRd:=hid (HPR6.out.keep hkd (fun f=>f))
     have HZRd:=hid (HZR6.out.keep hkd (fun f=>f))
     have HWd6:=hid (HW6.out.then hkd)
     have HCd:=hid (HC6.out.same hkd)
     have HBd:=hid (HB6.out.same hkd)
     have HCL:=hid (fun W (S2:Nat→Prop) (hk:Keep S2 w6.drew W) (h1:¬S2 g) (h2:¬S2 (gm+1)) (h3:¬S2 gm)=>show Blk W g 56 #[.int .i64 a.fr,.int .i64 a.tt,.slice C bA.length cc]∧Blk W (gm+1) 46 #[.int .i64 m.k,.int .i64 m.call,.int .i64 m.d,.int .i64 m.c,.int .i64 m.e,.int .i64 m.n,.slice B m.body.length bc]∧W.cell? ⟨g,1,none⟩=some (.int .i64 a.tt)∧W.cell? ⟨g,0,none⟩=some (.int .i64 a.fr)∧W.cell? ⟨gm,3,none⟩=some (.int .i64 m.c) from
      ⟨HPKd.out.keep hk h1,HGNd.out.keep hk h2,(hk.cell (p:=⟨g,1,none⟩) HPKd.out.lt h1).trans p1,(hk.cell (p:=⟨g,0,none⟩) HPKd.out.lt h1).trans p0,(hk.cell (p:=⟨gm,3,none⟩) (by have:=HGNd.out.lt;show gm<_;omega) h3).trans m3⟩)
     clear hHeld p1 p0 m3 HPK HGN HPR6 HZR6 HW6 HC6 hkd
     generalize w6.drew=wx at *
     have hgg:=HG.out
     have hgm9:=HGM.out
     refine rd1 28 (fun K hK=>?_)
     refine store_step rfl _ (.tmp 4) (.tmp 47) rfl (w.heap.size+1) #[.int .i64 a.fr,.int .i64 a.tt,.slice C bA.length cc] rfl rfl _ _ HPRd.out (by kernel_rfl) rfl (one_toArray (pk_one (⟨a.fr,a.tt,C,cc,bA⟩:PkA))) ?_
     have hka:Keep (fun j=>j=w.heap.size+1) wx (wx.setRow (w.heap.size+1) #[.int .i64 a.fr,.int .i64 a.tt,.slice C bA.length cc]):=Keep.row _ _ _
     refine hK.out _ _ (HCL.out _ _ hka (fun e=>by have e2:g=w.heap.size+1:=e;omega) (fun e=>by have e2:gm+1=w.heap.size+1:=e;omega) (fun e=>by have e2:gm=w.heap.size+1:=e;omega)) (fun hHeld28=>?_)
     clear hK K
     refine pput ?_
     have HPRa:=hid (HPRd.out.row #[.int .i64 a.fr,.int .i64 a.tt,.slice C bA.length cc])
     have HZRa:=hid (HZRd.out.keep hka (fun e=>by have e2:w.heap.size+1+1=w.heap.size+1:=e;omega))
     generalize (wx.setRow (w.heap.size+1) #[.int .i64 a.fr,.int .i64 a.tt,.slice C bA.length cc])=wy at *
     refine rd1 29 (fun K hK=>?_)
     refine store_step rfl _ (.tmp 5) (.tmp 48) rfl (w.heap.size+1+1) #[.int .i64 m.k,.int .i64 m.call,.int .i64 m.d,.int .i64 m.c,.int .i64 m.e,.int .i64 m.n,.slice B m.body.length bc] rfl rfl _ _ HZRa.out (by kernel_rfl) rfl ((nt_one m B bc)) ?_
     have hkb:Keep (fun j=>j=w.heap.size+1+1) wy (wy.setRow (w.heap.size+1+1) #[.int .i64 m.k,.int .i64 m.call,.int .i64 m.d,.int .i64 m.c,.int .i64 m.e,.int .i64 m.n,.slice B m.body.length bc]):=Keep.row _ _ _
     have hkc:Keep (fun j=>j=w.heap.size+1∨j=w.heap.size+1+1) wx (wy.setRow (w.heap.size+1+1) #[.int .i64 m.k,.int .i64 m.call,.int .i64 m.d,.int .i64 m.c,.int .i64 m.e,.int .i64 m.n,.slice B m.body.length bc]):=(hka.wide (fun _ _ e=>.inl e)).trans hkb (fun _ _ e=>.inr e)
     refine hK.out _ _ (HCL.out _ _ hkc (fun e=>by rcases e with e | e <;> omega) (fun e=>by rcases e with e | e <;> omega) (fun e=>by rcases e with e | e <;> omega)) (fun hHeld29=>?_)
     clear hK K
     refine pput ?_
     have HPRb:=hid (HPRa.out.keep hkb (fun e=>by have e2:w.heap.size+1=w.heap.size+1+1:=e;omega))
     have HZRb:=hid (HZRa.out.row #[.int .i64 m.k,.int .i64 m.call,.int .i64 m.d,.int .i64 m.c,.int .i64 m.e,.int .i64 m.n,.slice B m.body.length bc])
     have HWf:=hid (HWd6.out.trans hkc (fun j hj e=>by rcases e with e | e <;> omega))
     have HCf:=hid (HCd.out.keep hkc (fun j _ e=>.inr e))
     have HBf:=hid (HBd.out.keep hkc (fun j _ e=>by have h1:=HK3.out.size;have h2:=HG3.out;have h3:=HG.out;show j<w3.heap.size;rcases e with e | e <;> omega))
     generalize (wy.setRow (w.heap.size+1+1) #[.int .i64 m.k,.int .i64 m.call,.int .i64 m.d,.int .i64 m.c,.int .i64 m.e,.int .i64 m.n,.slice B m.body.length bc])=wz at *
     clear hka hkb hkc
     refine tk 30 ?_
     refine wpAnyH_done (by kernel_rfl) ?_ _
     go_wp2_with fail
     refine bodyPost_ret (results_cell2_tmp rfl _ _ _ _ _ _ _ _ _ _ _ _ _ rfl rfl rfl HPRb.out HZRb.out Tryz.underlying56 rfl (by kernel_rfl) Tryz.underlying46 rfl (by kernel_rfl)) rfl ?_
     refine ⟨C,cc,#[.int .i64 m.k,.int .i64 m.call,.int .i64 m.d,.int .i64 m.c,.int .i64 m.e,.int .i64 m.n,.slice B m.body.length bc],?_,?_,rfl,(nt_one m B bc),?_,HWf.out⟩
     ·rw [HNO.out,HBA.out];rfl
     ·rw [HBA.out];exact HCf.out.wide (fun _ _ h=>.inl h)
     ·intro h
      rw [HNO.out] at h;cases h
   ·have dt:(a.tt == place)=false:=by simpa using ct
    have HNO:=hid (show okL a place=false from by rw [HOK.out];exact decide_eq_false (fun h=>ct h.2.1))
    clear ct
    as_aux_lemma =>
    refine wp_region_held_drew (S:=fun W=>Blk W g 56 #[.int .i64 a.fr,.int .i64 a.tt,.slice C bA.length cc]∧Blk W (gm+1) 46 #[.int .i64 m.k,.int .i64 m.call,.int .i64 m.d,.int .i64 m.c,.int .i64 m.e,.int .i64 m.n,.slice B m.body.length bc]∧W.cell? ⟨g,1,none⟩=some (.int .i64 a.tt)∧W.cell? ⟨g,0,none⟩=some (.int .i64 a.fr)∧W.cell? ⟨gm,3,none⟩=some (.int .i64 m.c)) (by kernel_rfl) ⟨HPK.out,HGN.out,p1,p0,m3⟩ (fun hHeld=>?_)
    refine tL 0 (.tmp 7) (g) 56 (#[.int .i64 a.fr,.int .i64 a.tt,.slice C bA.length cc]) (fun W hS=>hS.1) Tryz.underlying56 ?_
    refine tL 1 (.tmp 10) (gm+1) 46 (#[.int .i64 m.k,.int .i64 m.call,.int .i64 m.d,.int .i64 m.c,.int .i64 m.e,.int .i64 m.n,.slice B m.body.length bc]) (fun W hS=>hS.2.1) Tryz.underlying46 ?_
    refine tk 2 ?_
    refine tk 3 ?_
    refine tk 4 ?_
    refine tk 5 ?_
    refine tk 6 ?_
    refine tk 7 ?_
    refine tk 8 ?_
    refine tk 9 ?_
    refine tk 10 ?_
    refine tu 11 ?_
    refine tu 12 ?_
    refine tu 13 ?_
    refine tu 14 ?_
    refine tu 15 ?_
    refine tk 16 ?_
    refine tk 17 ?_
    refine tu 18 ?_
    refine tu 19 ?_
    refine tu 20 ?_
    refine tk 21 ?_
    refine tk 22 ?_
    refine tu 23 ?_
    refine tu 24 ?_
    refine tu 25 ?_
    refine tu 26 ?_
    refine tk 27 ?_
    have hkd:Same w6 w6.drew:=(Keep.refl (fun _=>False) w6).drew
    have HPKd:=hid (HPK.out.keep hkd (fun f=>f))
    have HGNd:=hid (HGN.out.keep hkd (fun f=>f))
    have HPRd:=hid (HPR6.out.keep hkd (fun f=>f))
    have HZRd:=hid (HZR6.out.keep hkd (fun f=>f))
    have HWd6:=hid (HW6.out.then hkd)
    have HCd:=hid (HC6.out.same hkd)
    have HBd:=hid (HB6.out.same hkd)
    have HCL:=hid (fun W (S2:Nat→Prop) (hk:Keep S2 w6.drew W) (h1:¬S2 g) (h2:¬S2 (gm+1)) (h3:¬S2 gm)=>show Blk W g 56 #[.int .i64 a.fr,.int .i64 a.tt,.slice C bA.length cc]∧Blk W (gm+1) 46 #[.int .i64 m.k,.int .i64 m.call,.int .i64 m.d,.int .i64 m.c,.int .i64 m.e,.int .i64 m.n,.slice B m.body.length bc]∧W.cell? ⟨g,1,none⟩=some (.int .i64 a.tt)∧W.cell? ⟨g,0,none⟩=some (.int .i64 a.fr)∧W.cell? ⟨gm,3,none⟩=some (.int .i64 m.c) from
     ⟨HPKd.out.keep hk h1,HGNd.out.keep hk h2,(hk.cell (p:=⟨g,1,none⟩) HPKd.out.lt h1).trans p1,(hk.cell (p:=⟨g,0,none⟩) HPKd.out.lt h1).trans p0,(hk.cell (p:=⟨gm,3,none⟩) (by have:=HGNd.out.lt;show gm<_;omega) h3).trans m3⟩)
    clear hHeld p1 p0 m3 HPK HGN HPR6 HZR6 HW6 HC6 hkd
    generalize w6.drew=wx at *
    have hgg:=HG.out
    have hgm9:=HGM.out
    refine rd1 28 (fun K hK=>?_)
    refine store_step rfl _ (.tmp 4) (.tmp 47) rfl (w.heap.size+1) #[.int .i64 a.fr,.int .i64 a.tt,.slice C bA.length cc] rfl rfl _ _ HPRd.out (by kernel_rfl) rfl (one_toArray (pk_one (⟨a.fr,a.tt,C,cc,bA⟩:PkA))) ?_
    have hka:Keep (fun j=>j=w.heap.size+1) wx (wx.setRow (w.heap.size+1) #[.int .i64 a.fr,.int .i64 a.tt,.slice C bA.length cc]):=Keep.row _ _ _
    refine hK.out _ _ (HCL.out _ _ hka (fun e=>by have e2:g=w.heap.size+1:=e;omega) (fun e=>by have e2:gm+1=w.heap.size+1:=e;omega) (fun e=>by have e2:gm=w.heap.size+1:=e;omega)) (fun hHeld28=>?_)
    clear hK K
    refine pput ?_
    have HPRa:=hid (HPRd.out.row #[.int .i64 a.fr,.int .i64 a.tt,.slice C bA.length cc])
    have HZRa:=hid (HZRd.out.keep hka (fun e=>by have e2:w.heap.size+1+1=w.heap.size+1:=e;omega))
    generalize (wx.setRow (w.heap.size+1) #[.int .i64 a.fr,.int .i64 a.tt,.slice C bA.length cc])=wy at *
    refine rd1 29 (fun K hK=>?_)
    refine store_step rfl _ (.tmp 5) (.tmp 48) rfl (w.heap.size+1+1) #[.int .i64 m.k,.int .i64 m.call,.int .i64 m.d,.int .i64 m.c,.int .i64 m.e,.int .i64 m.n,.slice B m.body.length bc] rfl rfl _ _ HZRa.out (by kernel_rfl) rfl ((nt_one m B bc)) ?_
    have hkb:Keep (fun j=>j=w.heap.size+1+1) wy (wy.setRow (w.heap.size+1+1) #[.int .i64 m.k,.int .i64 m.call,.int .i64 m.d,.int .i64 m.c,.int .i64 m.e,.int .i64 m.n,.slice B m.body.length bc]):=Keep.row _ _ _
    have hkc:Keep (fun j=>j=w.heap.size+1∨j=w.heap.size+1+1) wx (wy.setRow (w.heap.size+1+1) #[.int .i64 m.k,.int .i64 m.call,.int .i64 m.d,.int .i64 m.c,.int .i64 m.e,.int .i64 m.n,.slice B m.body.length bc]):=(hka.wide (fun _ _ e=>.inl e)).trans hkb (fun _ _ e=>.inr e)
    refine hK.out _ _ (HCL.out _ _ hkc (fun e=>by rcases e with e | e <;> omega) (fun e=>by rcases e with e | e <;> omega) (fun e=>by rcases e with e | e <;> omega)) (fun hHeld29=>?_)
    clear hK K
    refine pput ?_
    have HPRb:=hid (HPRa.out.keep hkb (fun e=>by have e2:w.heap.size+1=w.heap.size+1+1:=e;omega))
    have HZRb:=hid (HZRa.out.row #[.int .i64 m.k,.int .i64 m.call,.int .i64 m.d,.int .i64 m.c,.int .i64 m.e,.int .i64 m.n,.slice B m.body.length bc])
    have HWf:=hid (HWd6.out.trans hkc (fun j hj e=>by rcases e with e | e <;> omega))
    have HCf:=hid (HCd.out.keep hkc (fun j _ e=>.inr e))
    have HBf:=hid (HBd.out.keep hkc (fun j _ e=>by have h1:=HK3.out.size;have h2:=HG3.out;have h3:=HG.out;show j<w3.heap.size;rcases e with e | e <;> omega))
    generalize (wy.setRow (w.heap.size+1+1) #[.int .i64 m.k,.int .i64 m.call,.int .i64 m.d,.int .i64 m.c,.int .i64 m.e,.int .i64 m.n,.slice B m.body.length bc])=wz at *
    clear hka hkb hkc
    refine tk 30 ?_
    refine wpAnyH_done (by kernel_rfl) ?_ _
    go_wp2_with fail
    refine bodyPost_ret (results_cell2_tmp rfl _ _ _ _ _ _ _ _ _ _ _ _ _ rfl rfl rfl HPRb.out HZRb.out Tryz.underlying56 rfl (by kernel_rfl) Tryz.underlying46 rfl (by kernel_rfl)) rfl ?_
    refine ⟨C,cc,#[.int .i64 m.k,.int .i64 m.call,.int .i64 m.d,.int .i64 m.c,.int .i64 m.e,.int .i64 m.n,.slice B m.body.length bc],?_,?_,rfl,(nt_one m B bc),?_,HWf.out⟩
    ·rw [HNO.out,HBA.out];rfl
    ·rw [HBA.out];exact HCf.out.wide (fun _ _ h=>.inl h)
    ·intro h
     rw [HNO.out] at h;cases h
  ·have HDB:=hid (show Calls Tryz.prog 23 #[.slice C bA.length cc] w3 (fun e w'=>e=.returned (.tuple #[.agg #[.int .i64 0,.int .i64 0,.int .i64 0,.int .i64 0,.int .i64 0,.int .i64 0,.slice none 0 0],.int .i64 (errM bA)])∧Same w3 w') from HDE.out.mono (fun e w' hh=>⟨hh.2.2 e0,hh.1⟩))
   have de:(errM bA == 0)=false:=by simpa using e0
   have HNO:=hid (show okL a place=false from by rw [HOK.out];exact decide_eq_false (fun h=>e0 h.1))
   clear e0 HDE
   go_upto_region 6 with (go_at_call 23;(with_reducible refine HDB.out.mono ?_);rintro e9 w4 ⟨rfl,hk4⟩;have HK4:=hid hk4;clear hk4)
   have hgm:=(Blk.made w4 66 #[.int .i64 0,.int .i64 0,.int .i64 0,.int .i64 0,.int .i64 0,.int .i64 0,.slice none 0 0]).alloc (.cells #[.int .i64 0,.int .i64 0,.int .i64 0,.int .i64 0,.int .i64 0,.int .i64 0,.slice none 0 0] 46)
   have hgn:=Blk.made (w4.alloc (.cells #[.int .i64 0,.int .i64 0,.int .i64 0,.int .i64 0,.int .i64 0,.int .i64 0,.slice none 0 0] 66)) 46 #[.int .i64 0,.int .i64 0,.int .i64 0,.int .i64 0,.int .i64 0,.int .i64 0,.slice none 0 0]
   rw [World.size_alloc] at hgn
   have hk6:Same w4 ((w4.alloc (.cells #[.int .i64 0,.int .i64 0,.int .i64 0,.int .i64 0,.int .i64 0,.int .i64 0,.slice none 0 0] 66)).alloc (.cells #[.int .i64 0,.int .i64 0,.int .i64 0,.int .i64 0,.int .i64 0,.int .i64 0,.slice none 0 0] 46)):=((Keep.refl _ _).alloc _).alloc _
   have HPK:=hid ((HB3.out.keep HK4.out (fun f=>f)).keep hk6 (fun f=>f))
   have HPR6:=hid ((HPR.out.keep HK4.out (fun f=>f)).keep hk6 (fun f=>f))
   have HZR6:=hid ((HZR.out.keep HK4.out (fun f=>f)).keep hk6 (fun f=>f))
   have HW6:=hid ((HK3.out.then HK4.out).then hk6)
   have HC6:=hid ((HS3.out.same HK4.out).same hk6)
   have h34:=HK4.out.size
   have hg3:=HG3.out
   obtain ⟨gm,hgmd⟩:∃ x,x=w4.heap.size:=⟨_,rfl⟩
   rw [←hgmd] at hgm hgn ⊢
   have HGM:=hid (show g<gm from by omega)
   clear hk6 hgmd h34 hg3
   generalize ((w4.alloc (.cells #[.int .i64 0,.int .i64 0,.int .i64 0,.int .i64 0,.int .i64 0,.int .i64 0,.slice none 0 0] 66)).alloc (.cells #[.int .i64 0,.int .i64 0,.int .i64 0,.int .i64 0,.int .i64 0,.int .i64 0,.slice none 0 0] 46))=w6 at *
   have p1:w6.cell? ⟨g,1,none⟩=some (.int .i64 a.tt):=HPK.out.at_ 1
   have p0:w6.cell? ⟨g,0,none⟩=some (.int .i64 a.fr):=HPK.out.at_ 0
   have m3:w6.cell? ⟨gm,3,none⟩=some (.int .i64 0):=hgm.at_ 3
   have HGN:=hid hgn
   clear hgn hgm
   refine wp_region_held_drew (S:=fun W=>Blk W g 56 #[.int .i64 a.fr,.int .i64 a.tt,.slice C bA.length cc]∧Blk W (gm+1) 46 #[.int .i64 0,.int .i64 0,.int .i64 0,.int .i64 0,.int .i64 0,.int .i64 0,.slice none 0 0]∧W.cell? ⟨g,1,none⟩=some (.int .i64 a.tt)∧W.cell? ⟨g,0,none⟩=some (.int .i64 a.fr)∧W.cell? ⟨gm,3,none⟩=some (.int .i64 0)) (by kernel_rfl) ⟨HPK.out,HGN.out,p1,p0,m3⟩ (fun hHeld=>?_)
   refine tL 0 (.tmp 7) (g) 56 (#[.int .i64 a.fr,.int .i64 a.tt,.slice C bA.length cc]) (fun W hS=>hS.1) Tryz.underlying56 ?_
   refine tL 1 (.tmp 10) (gm+1) 46 (#[.int .i64 0,.int .i64 0,.int .i64 0,.int .i64 0,.int .i64 0,.int .i64 0,.slice none 0 0]) (fun W hS=>hS.2.1) Tryz.underlying46 ?_
   refine tk 2 ?_
   refine tk 3 ?_
   refine tk 4 ?_
   refine tu 5 ?_
   refine tu 6 ?_
   refine tu 7 ?_
   refine tu 8 ?_
   refine tk 9 ?_
   refine tk 10 ?_
   refine tu 11 ?_
   refine tu 12 ?_
   refine tu 13 ?_
   refine tu 14 ?_
   refine tu 15 ?_
   refine tk 16 ?_
   refine tk 17 ?_
   refine tu 18 ?_
   refine tu 19 ?_
   refine tu 20 ?_
   refine tk 21 ?_
   refine tk 22 ?_
   refine tu 23 ?_
   refine tu 24 ?_
   refine tu 25 ?_
   refine tu 26 ?_
   refine tk 27 ?_
   have hkd:Same w6 w6.drew:=(Keep.refl (fun _=>False) w6).drew
   have HPKd:=hid (HPK.out.keep hkd (fun f=>f))
   have HGNd:=hid (HGN.out.keep hkd (fun f=>f))
   have HPRd:=hid (HPR6.out.keep hkd (fun f=>f))
   have HZRd:=hid (HZR6.out.keep hkd (fun f=>f))
   have HWd6:=hid (HW6.out.then hkd)
   have HCd:=hid (HC6.out.same hkd)
   have HCL:=hid (fun W (S2:Nat→Prop) (hk:Keep S2 w6.drew W) (h1:¬S2 g) (h2:¬S2 (gm+1)) (h3:¬S2 gm)=>show Blk W g 56 #[.int .i64 a.fr,.int .i64 a.tt,.slice C bA.length cc]∧Blk W (gm+1) 46 #[.int .i64 0,.int .i64 0,.int .i64 0,.int .i64 0,.int .i64 0,.int .i64 0,.slice none 0 0]∧W.cell? ⟨g,1,none⟩=some (.int .i64 a.tt)∧W.cell? ⟨g,0,none⟩=some (.int .i64 a.fr)∧W.cell? ⟨gm,3,none⟩=some (.int .i64 0) from
    ⟨HPKd.out.keep hk h1,HGNd.out.keep hk h2,(hk.cell (p:=⟨g,1,none⟩) HPKd.out.lt h1).trans p1,(hk.cell (p:=⟨g,0,none⟩) HPKd.out.lt h1).trans p0,(hk.cell (p:=⟨gm,3,none⟩) (by have:=HGNd.out.lt;show gm<_;omega) h3).trans m3⟩)
   clear hHeld p1 p0 m3 HPK HGN HPR6 HZR6 HW6 HC6 hkd
   generalize w6.drew=wx at *
   have hgg:=HG.out
   have hgm9:=HGM.out
   refine rd1 28 (fun K hK=>?_)
   refine store_step rfl _ (.tmp 4) (.tmp 47) rfl (w.heap.size+1) #[.int .i64 a.fr,.int .i64 a.tt,.slice C bA.length cc] rfl rfl _ _ HPRd.out (by kernel_rfl) rfl (one_toArray (pk_one (⟨a.fr,a.tt,C,cc,bA⟩:PkA))) ?_
   have hka:Keep (fun j=>j=w.heap.size+1) wx (wx.setRow (w.heap.size+1) #[.int .i64 a.fr,.int .i64 a.tt,.slice C bA.length cc]):=Keep.row _ _ _
   refine hK.out _ _ (HCL.out _ _ hka (fun e=>by have e2:g=w.heap.size+1:=e;omega) (fun e=>by have e2:gm+1=w.heap.size+1:=e;omega) (fun e=>by have e2:gm=w.heap.size+1:=e;omega)) (fun hHeld28=>?_)
   clear hK K
   refine pput ?_
   have HPRa:=hid (HPRd.out.row #[.int .i64 a.fr,.int .i64 a.tt,.slice C bA.length cc])
   have HZRa:=hid (HZRd.out.keep hka (fun e=>by have e2:w.heap.size+1+1=w.heap.size+1:=e;omega))
   generalize (wx.setRow (w.heap.size+1) #[.int .i64 a.fr,.int .i64 a.tt,.slice C bA.length cc])=wy at *
   refine rd1 29 (fun K hK=>?_)
   refine store_step rfl _ (.tmp 5) (.tmp 48) rfl (w.heap.size+1+1) #[.int .i64 0,.int .i64 0,.int .i64 0,.int .i64 0,.int .i64 0,.int .i64 0,.slice none 0 0] rfl rfl _ _ HZRa.out (by kernel_rfl) rfl ((nt_one (⟨0,0,0,0,0,0,[]⟩:Nt) none 0)) ?_
   have hkb:Keep (fun j=>j=w.heap.size+1+1) wy (wy.setRow (w.heap.size+1+1) #[.int .i64 0,.int .i64 0,.int .i64 0,.int .i64 0,.int .i64 0,.int .i64 0,.slice none 0 0]):=Keep.row _ _ _
   have hkc:Keep (fun j=>j=w.heap.size+1∨j=w.heap.size+1+1) wx (wy.setRow (w.heap.size+1+1) #[.int .i64 0,.int .i64 0,.int .i64 0,.int .i64 0,.int .i64 0,.int .i64 0,.slice none 0 0]):=(hka.wide (fun _ _ e=>.inl e)).trans hkb (fun _ _ e=>.inr e)
   refine hK.out _ _ (HCL.out _ _ hkc (fun e=>by rcases e with e | e <;> omega) (fun e=>by rcases e with e | e <;> omega) (fun e=>by rcases e with e | e <;> omega)) (fun hHeld29=>?_)
   clear hK K
   refine pput ?_
   have HPRb:=hid (HPRa.out.keep hkb (fun e=>by have e2:w.heap.size+1=w.heap.size+1+1:=e;omega))
   have HZRb:=hid (HZRa.out.row #[.int .i64 0,.int .i64 0,.int .i64 0,.int .i64 0,.int .i64 0,.int .i64 0,.slice none 0 0])
   have HWf:=hid (HWd6.out.trans hkc (fun j hj e=>by rcases e with e | e <;> omega))
   have HCf:=hid (HCd.out.keep hkc (fun j _ e=>.inr e))
   generalize (wy.setRow (w.heap.size+1+1) #[.int .i64 0,.int .i64 0,.int .i64 0,.int .i64 0,.int .i64 0,.int .i64 0,.slice none 0 0])=wz at *
   clear hka hkb hkc
   refine tk 30 ?_
   refine wpAnyH_done (by kernel_rfl) ?_ _
   go_wp2_with fail
   refine bodyPost_ret (results_cell2_tmp rfl _ _ _ _ _ _ _ _ _ _ _ _ _ rfl rfl rfl HPRb.out HZRb.out Tryz.underlying56 rfl (by kernel_rfl) Tryz.underlying46 rfl (by kernel_rfl)) rfl ?_
   refine ⟨C,cc,#[.int .i64 0,.int .i64 0,.int .i64 0,.int .i64 0,.int .i64 0,.int .i64 0,.slice none 0 0],?_,?_,rfl,(nt_one (⟨0,0,0,0,0,0,[]⟩:Nt) none 0),?_,HWf.out⟩
   ·rw [HNO.out,HBA.out];rfl
   ·rw [HBA.out];exact HCf.out.wide (fun _ _ h=>.inl h)
   ·intro h
    rw [HNO.out] at h;cases h
end Go.Proofs.YtbjddfiledoaoaaGreat

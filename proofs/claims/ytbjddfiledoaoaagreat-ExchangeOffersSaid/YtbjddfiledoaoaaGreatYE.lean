import Derived.Test.YtbjddfiledoaoaaGreatYA
namespace Go.Proofs.YtbjddfiledoaoaaGreat
open Go.RowKit
theorem one_restZ {F G:Option Addr→Nat→Nat→World→Prop} {goal:Prop} (main:(∀ x c g W,F x c g W→G x c g W)→goal) (rest:∀ x c g W,F x c g W→G x c g W):goal:=main rest
theorem pk_one (y:PkA):∀ u∈y.cells,u.oneCell'=true:=by
 intro u hu
 simp only [PkA.cells,List.mem_cons,List.not_mem_nil,or_false] at hu
 rcases hu with rfl | rfl | rfl <;> rfl
theorem pks_one (l:List PkA):∀ u∈l.flatMap PkA.cells,u.oneCell'=true:=by
 intro u hu
 obtain ⟨y,_,hy⟩:=List.mem_flatMap.1 hu
 exact pk_one y u hy
theorem RX.keep {S Av:Nat→Prop} {w w':World} {q:QS} (h:RX w Av q) (hk:Keep S w w') (hS:∀ i,i<w.heap.size→S i→Av i):RX w' Av q :=
 ⟨h.L.keep hk hS,fun x hx=>⟨(h.lin x hx).an.keep hk hS,(h.lin x hx).src.keep hk hS⟩,h.who.keep hk hS,h.ep.keep hk hS,h.out.keep hk hS,fun y hy=>(h.body y hy).keep hk hS,h.ev.keep hk hS⟩
theorem RX.wide {Av Av':Nat→Prop} {w:World} {q:QS} (h:RX w Av q) (hS:∀ i,i<w.heap.size→Av' i→Av i):RX w Av' q :=
 ⟨h.L.wide hS,fun x hx=>⟨(h.lin x hx).an.wide hS,(h.lin x hx).src.wide hS⟩,h.who.wide hS,h.ep.wide hS,h.out.wide hS,fun y hy=>(h.body y hy).wide hS,h.ev.wide hS⟩
theorem RX.later {Av Av':Nat→Prop} {w w':World} {q:QS} (h:RX w Av q) (hk:Same w w') (hA:∀ i,Av' i→Av i∨w.heap.size≤i):RX w' Av' q :=
 (h.wide (Av':=Av') (fun i hi ha=>(hA i ha).elim id (fun h=>by omega))).same hk
theorem QAt.later {Av Av':Nat→Prop} {w w':World} {x:QA} (h:QAt w Av x) (hk:Same w w') (hA:∀ i,Av' i→Av i∨w.heap.size≤i):QAt w' Av' x:=by
 have hS:∀ i,i<w.heap.size→Av' i→Av i:=fun i hi ha=>(hA i ha).elim id (fun h=>by omega)
 exact ⟨(h.an.wide hS).same hk,(h.src.wide hS).same hk⟩
theorem range_row {w:World} {b off:Nat} {R:List QA} (h:Row w b off (R.flatMap QA.cells)) {i:Nat} {x:QA} (hx:R[i]? = some x):w.rangeAt b (off+i * 11) x.cells:=by
 intro j v hv
 have hj:j<11:=(List.getElem?_eq_some_iff.1 hv).1
 have h1:=flat_get QA.cells 11 (fun _=>rfl) R i j hj
 rw [hx] at h1
 have h2:=h (i * 11+j) v (by rw [h1];exact hv)
 rw [Nat.add_assoc]
 exact h2
set_option maxHeartbeats 8000000 in
set_option maxRecDepth 100000 in
theorem offerQ (w:World) (Av:Nat→Prop) (hAv:∀ i,Av i→i<w.heap.size) (q:QS) (h:RX w Av q) (hn:q.R.length≤1000) (hno:q.out.length≤900000) (now:Int) (hv:vN now 0=true) (i:Nat) (x:QA) (hx:q.R[i]? = some x) (hok:LnOk x.pt):Calls Tryz.prog 109 #[.agg q.cells.toArray,.int .i64 i,.int .i64 now] w (QPost w Av q.c (q.pt.offer i x.pt now)):=by
 have hm:=(Blk.made w 35 q.cells.toArray).alloc (.cells zero20.toArray 35)
 have hz:=Blk.made (w.alloc (.cells q.cells.toArray 35)) 35 zero20.toArray
 have hw:Same w ((w.alloc (.cells q.cells.toArray 35)).alloc (.cells zero20.toArray 35)):=((Keep.refl _ _).alloc _).alloc _
 rw [World.size_alloc] at hz
 generalize hw1:((w.alloc (.cells q.cells.toArray 35)).alloc (.cells zero20.toArray 35))=w1 at *
 have hsz:w1.heap.size=w.heap.size+2:=by rw [←hw1];simp only [World.size_alloc]
 have hi:=(List.getElem?_eq_some_iff.1 hx).1
 obtain ⟨b,off,hLA,hb,_,hrow⟩:=(h.L.same hw).at_ (by omega)
 have hrg:=range_row hrow hx
 have z15:w1.cell? ⟨w.heap.size,15,none⟩=some (.slice q.LA q.R.length q.lc):=hm.at_ 15
 rw [hLA] at z15
 have HM:=hid hm
 have HZ:=hid hz
 have HW:=hid hw
 have HR:=hid h
 have HAV:=hid hAv
 have HSZ:=hid hsz
 have HXX:=hid hx
 have HQX:=hid (h.lin x (List.mem_of_getElem? hx))
 have HOK:=hid hok
 have HRG:=hid hrg
 have HOK2:=hid (show LnOk { x.pt with last:=max x.last now } from ⟨hok.vl,by have h1:=hok.la;have h2:=vN_true hv;have h3:x.pt.last=x.last:=rfl;simp only;omega,hok.d,hok.src⟩)
 have HZL:=hid (Blk.made w1 53 #[.int .i64 0,.int .i64 0,.int .i64 0,.int .i64 0,.int .i64 0,.string ⟨#[]⟩,.int .i64 0,.slice none 0 0,.int .i64 0,.slice none 0 0,.int .i64 0])
 have hii:(i:Int)<(q.R.length:Int):=by omega
 have hi0:(0:Int)≤(i:Int):=Int.natCast_nonneg _
 clear hm hz hw h hAv hx hok hrow hrg hb hLA hsz hv
 obtain ⟨g0,hg0⟩:∃ g,g=w.heap.size:=⟨_,rfl⟩
 go_enter Tryz.func109,Tryz.ntmps109
 go_upto_region 1 with fail
 try simp only [zero20] at hw1
 try rw [hw1]
 rw [←hg0] at HM HZ z15 HSZ ⊢
 have HG0:=hid hg0
 clear hg0 hw1
 go_upto_region 2 with (first
  | (refine wpList_load_mid rfl _ (.tmp 13) rfl b (off+i * 11) rfl x.cells _ HRG.out Tryz.underlying53 rfl (by kernel_rfl) ?_)
  | (refine wpList_store_row rfl _ (.tmp 7) (.tmp 14) rfl w1.heap.size x.cells.toArray rfl rfl _ _ HZL.out (by kernel_rfl) rfl (one_toArray (qa_one x)) ?_))
 obtain ⟨g2,hg2⟩:∃ g,g=w1.heap.size:=⟨_,rfl⟩
 have hL2:Blk ((w1.alloc (.cells #[.int .i64 0,.int .i64 0,.int .i64 0,.int .i64 0,.int .i64 0,.string ⟨#[]⟩,.int .i64 0,.slice none 0 0,.int .i64 0,.slice none 0 0,.int .i64 0] 53)).setRow w1.heap.size x.cells.toArray) w1.heap.size 53 x.cells.toArray:=HZL.out.row _
 have hk2:Same w1 ((w1.alloc (.cells #[.int .i64 0,.int .i64 0,.int .i64 0,.int .i64 0,.int .i64 0,.string ⟨#[]⟩,.int .i64 0,.slice none 0 0,.int .i64 0,.slice none 0 0,.int .i64 0] 53)).setRow w1.heap.size x.cells.toArray):=((Keep.refl (fun _=>False) w1).alloc _).trans (Keep.row _ _ _) (fun j hj e=>by have e2:j=w1.heap.size:=e;omega)
 obtain ⟨w2,hw2⟩:∃ x',x'=(w1.alloc (.cells #[.int .i64 0,.int .i64 0,.int .i64 0,.int .i64 0,.int .i64 0,.string ⟨#[]⟩,.int .i64 0,.slice none 0 0,.int .i64 0,.slice none 0 0,.int .i64 0] 53)).setRow w1.heap.size x.cells.toArray:=⟨_,rfl⟩
 rw [←hw2] at hL2 hk2 ⊢
 rw [←hg2] at hL2 ⊢
 have HG2:=hid (show g2=g0+2 from by rw [hg2,HSZ.out])
 have hM2:=HM.out.keep hk2 (fun f=>f)
 have hZ2:=HZ.out.keep hk2 (fun f=>f)
 have y10:w2.cell? ⟨g2,10,none⟩=some (.int .i64 x.last):=hL2.at_ 10
 have f10:=hL2.free 10
 obtain ⟨mx,hmx⟩:∃ m,max x.last now=m:=⟨_,rfl⟩
 have HMX:=hid (show mx=max x.last now from hmx.symm)
 have HM2:=hid hM2
 have HZ2:=hid hZ2
 have HL2:=hid hL2
 have HK2:=hid (HW.out.then hk2)
 clear hL2 hk2 hw2 hg2 hM2 hZ2 z15 HRG HZL HM HZ
 go_upto_region 3 with fail
 clear hmx
 obtain ⟨x2,hx2⟩:∃ x2:QA,x2={ x with last:=mx }:=⟨_,rfl⟩
 have hL3:Blk (w2.setCell ⟨g2,10,none⟩ (.int .i64 mx)) g2 53 x2.cells.toArray:=by
  have h1:=HL2.out.put 10 (.int .i64 mx)
  have h2:x2.cells.toArray=x.cells.toArray.setIfInBounds 10 (.int .i64 mx):=by rw [hx2];simp [QA.cells]
  rw [h2];exact h1
 have hM3:Blk (w2.setCell ⟨g2,10,none⟩ (.int .i64 mx)) g0 35 q.cells.toArray:=HM2.out.far (p:=⟨g2,10,none⟩) (by have:=HG2.out;show ¬g0=g2;omega) _
 have hZ3:Blk (w2.setCell ⟨g2,10,none⟩ (.int .i64 mx)) (g0+1) 35 zero20.toArray:=HZ2.out.far (p:=⟨g2,10,none⟩) (by have:=HG2.out;show ¬g0+1=g2;omega) _
 have hk3:Same w (w2.setCell ⟨g2,10,none⟩ (.int .i64 mx)):=HK2.out.trans ((Keep.refl (fun j=>j=g2) w2).put 10 _) (fun j hj e=>by have e2:j=g2:=e;have:=HG2.out;have:=HG0.out;omega)
 generalize (w2.setCell ⟨g2,10,none⟩ (.int .i64 mx))=w3 at *
 have hq2:QAt w Av x2:=by rw [hx2];exact ⟨HQX.out.an,HQX.out.src⟩
 have HXP:=hid (show x2.pt=({ x.pt with last:=max x.last now }:Ln) from by rw [hx2,HMX.out];rfl)
 have HX2:=hid (And.intro (show x2.s=x.s from by rw [hx2]) (show x2.d=x.d from by rw [hx2]))
 have HA2:=hid (fun (j:Nat) (hj:Av j∨j=g0∨j=g0+1∨j=g2)=>show Av j∨w.heap.size≤j from by
  have h1:=HG0.out
  have h2:=HG2.out
  rcases hj with hj | hj | hj | hj
  ·exact .inl hj
  ·exact .inr (by omega)
  ·exact .inr (by omega)
  ·exact .inr (by omega))
 have HLT3:=hid (show g2<w3.heap.size from hL3.lt)
 have HSE:=hid (set_any w3 (fun j=>Av j∨j=g0∨j=g0+1∨j=g2) (fun j hj=>by
  have h2:=HG2.out
  have h3:=HLT3.out
  rcases hj with hj | hj | hj | hj
  ·exact Nat.lt_of_lt_of_le (HAV.out j hj) hk3.size
  ·omega
  ·omega
  ·omega) q (HR.out.later hk3 HA2.out) hn i hi x2 (hq2.later hk3 HA2.out))
 have HL3:=hid hL3
 have HM3:=hid hM3
 have HZ3:=hid hZ3
 have HK3:=hid hk3
 have HQ2:=hid hq2
 unfold QPost at HSE
 clear hx2 hL3 hM3 hZ3 hk3 hq2 y10 f10 HM2 HZ2 HL2 HK2
 go_upto_region 4 with (first
  | (refine wpList_load_row rfl _ (.tmp 3) rfl g0 rfl _ q.cells.toArray (0,0) _ HM3.out Tryz.underlying35 rfl (by kernel_rfl) ?_)
  | (refine wpList_load_row rfl _ (.tmp 7) rfl g2 rfl _ x2.cells.toArray (0,0) _ HL3.out Tryz.underlying53 rfl (by kernel_rfl) ?_)
  | (go_at_call 108;(with_reducible refine HSE.out.mono ?_);rintro e w4 ⟨q3,rfl,hr4,hp4,hc4,hk4⟩
     have HR4:=hid hr4
     have HP4:=hid hp4
     have HC4:=hid hc4
     have HK4:=hid hk4
     have HM4:=hid (HM3.out.keep hk4 (fun f=>f))
     clear hr4 hp4 hc4 hk4)
  | (refine wpList_store_row rfl _ (.tmp 3) (.tmp 23) rfl g0 q3.cells.toArray rfl rfl _ _ HM4.out (by kernel_rfl) rfl (one_toArray (q_one q3)) ?_))
 have hM5:=HM4.out.row q3.cells.toArray
 have hkr:Keep (fun j=>j=g0) w4 (w4.setRow g0 q3.cells.toArray):=Keep.row _ _ _
 have hk5:Same w (w4.setRow g0 q3.cells.toArray):=(HK3.out.then HK4.out).trans hkr (fun j hj e=>by have e2:j=g0:=e;have:=HG0.out;omega)
 have hr5:=HR4.out.keep hkr (fun j _ e=>.inr (.inl e))
 have hl5:=(HL3.out.keep HK4.out (fun f=>f)).keep hkr (fun e=>by have e2:g2=g0:=e;have:=HG2.out;omega)
 have hz5:=(HZ3.out.keep HK4.out (fun f=>f)).keep hkr (fun e=>by have e2:g0+1=g0:=e;omega)
 have hq5:=HQ2.out.later hk5 HA2.out
 generalize (w4.setRow g0 q3.cells.toArray)=w5 at *
 have HM5:=hid hM5
 have HK5:=hid hk5
 have HR5:=hid hr5
 have HL5:=hid hl5
 have HZ5:=hid hz5
 have HS5:=hid (fun W (hk:Same w5 W)=>show W.cell? ⟨g2,0,none⟩=some (.int .i64 x2.s.call)∧W.cell? ⟨g2,8,none⟩=some (.int .i64 x2.d)∧W.cell? ⟨g2,3,none⟩=some (.int .i64 x2.s.cen)∧W.cell? ⟨g2,4,none⟩=some (.int .i64 x2.s.ep)∧W.cell? ⟨g2,7,none⟩=some (.slice x2.A x2.s.ans.length x2.c)∧Blk W g2 53 x2.cells.toArray from by
  have hb:=hl5.keep hk (fun f=>f)
  exact ⟨hb.at_ 0,hb.at_ 8,hb.at_ 3,hb.at_ 4,hb.at_ 7,hb⟩)
 have HBO:=hid (fun W (hk:Same w5 W)=>body_any W _ x2 (hq5.same hk) (by rw [HXP.out];exact HOK2.out))
 unfold OwnPost at HBO
 clear hM5 hkr hk5 hr5 hl5 hz5 hq5 HM3 HM4 HL3 HZ3 HK3 HK4 HR4 HSE
 obtain ⟨s0,s1,s2,s3,s4,s5⟩:=HS5.out w5 (Keep.refl _ _)
 refine wp_region_held_drew (S:=fun W=>W.cell? ⟨g2,0,none⟩=some (.int .i64 x2.s.call)∧W.cell? ⟨g2,8,none⟩=some (.int .i64 x2.d)∧W.cell? ⟨g2,3,none⟩=some (.int .i64 x2.s.cen)∧W.cell? ⟨g2,4,none⟩=some (.int .i64 x2.s.ep)∧W.cell? ⟨g2,7,none⟩=some (.slice x2.A x2.s.ans.length x2.c)∧Blk W g2 53 x2.cells.toArray) (by kernel_rfl) ⟨s0,s1,s2,s3,s4,s5⟩ (fun hHeld=>?_)
 refine tk 0 ?_
 refine tk 1 ?_
 refine tk 2 ?_
 refine tk 3 ?_
 refine tk 4 ?_
 refine tk 5 ?_
 refine tk 6 ?_
 refine tk 7 ?_
 refine tk 8 ?_
 refine tk 9 ?_
 refine tk 10 ?_
 refine tk 11 ?_
 refine tk 12 ?_
 refine tk 13 ?_
 refine tk 14 ?_
 refine tL 15 (.tmp 7) (g2) 53 (x2.cells.toArray) (fun W hS=>hS.2.2.2.2.2) Tryz.underlying53 ?_
 have hkd:Same w5 w5.drew:=(Keep.refl _ _).drew
 clear hHeld s0 s1 s2 s3 s4 s5
 have HKD:=hid hkd
 clear hkd
 generalize w5.drew=wd at *
 apply one_restZ (F:=fun A c g W=>(Blk W g 46 #[.int .i64 4,.int .i64 x2.s.call,.int .i64 x2.d,.int .i64 x2.s.cen,.int .i64 x2.s.ep,.int .i64 x2.s.ans.length,.slice A (bodyL x2.pt).length c]∧g≠g0∧g≠g2∧g≠g0+1)∧Sl W (fun _=>False) 1 A (bodyL x2.pt).length (bcells (bodyL x2.pt))∧Same w5 W)
 case main =>
  intro REST
  refine wpAnyH_ready (rs:=[16,18]) (by kernel_rfl) (by simp) ?_
  refine AllReadyH.cons rfl (fun K hK=>?_) (AllReadyH.cons rfl (fun K hK=>?_) AllReadyH.nil)
  ·go_simp
   (with_reducible refine (HBO.out _ HKD.out).mono ?_)
   rintro e9 u1 ⟨A1,c1,rfl,ho9,hk9⟩
   have HK1:=hid (HKD.out.then hk9)
   have HSL1:=hid (ho9.sl (Av:=fun _=>False) (fun _ _ f=>f))
   clear ho9 hk9
   refine hK.out _ _ (HS5.out _ HK1.out) (fun hHeld1=>?_)
   clear hK K
   refine pput ?_
   refine tk 17 ?_
   refine rd1 18 (fun K hK=>?_)
   go_simp
   have HB2:=hid (Blk.made u1 46 #[.int .i64 0,.int .i64 0,.int .i64 0,.int .i64 0,.int .i64 0,.int .i64 0,.slice none 0 0])
   have HK2:=hid (HK1.out.alloc (.cells #[.int .i64 0,.int .i64 0,.int .i64 0,.int .i64 0,.int .i64 0,.int .i64 0,.slice none 0 0] 46))
   have HN2:=hid (show w5.heap.size≤u1.heap.size from HK1.out.size)
   have HSL2:=hid ((HSL1.out.wide (Av':=fun i=>i=u1.heap.size) (fun i hi e=>by have e2:i=u1.heap.size:=e;omega)).same ((Keep.refl (fun _=>False) u1).alloc (.cells #[.int .i64 0,.int .i64 0,.int .i64 0,.int .i64 0,.int .i64 0,.int .i64 0,.slice none 0 0] 46)))
   obtain ⟨ga2,hg2⟩:∃ g,g=u1.heap.size:=⟨_,rfl⟩
   rw [←hg2] at HB2 HN2 HSL2 ⊢
   clear hg2
   generalize (u1.alloc (.cells #[.int .i64 0,.int .i64 0,.int .i64 0,.int .i64 0,.int .i64 0,.int .i64 0,.slice none 0 0] 46))=u2 at *
   refine hK.out _ _ (HS5.out _ HK2.out) (fun hHeld2=>?_)
   clear hK K
   refine pput ?_
   refine rd1 19 (fun K hK=>?_)
   refine store_step rfl _ (.tmp 8) (.tmp 41) rfl (ga2) (#[.int .i64 4,.int .i64 x2.s.call,.int .i64 x2.d,.int .i64 x2.s.cen,.int .i64 x2.s.ep,.int .i64 x2.s.ans.length,.slice A1 (bodyL x2.pt).length c1]) rfl rfl _ _ HB2.out (by kernel_rfl) rfl (by kernel_rfl) ?_
   have hks:Same w5 (u2.setRow ga2 #[.int .i64 4,.int .i64 x2.s.call,.int .i64 x2.d,.int .i64 x2.s.cen,.int .i64 x2.s.ep,.int .i64 x2.s.ans.length,.slice A1 (bodyL x2.pt).length c1]):=HK2.out.trans (Keep.row _ _ _) (fun j hj e=>by have e2:j=ga2:=e;have:=HN2.out;omega)
   refine hK.out _ _ (HS5.out _ hks) (fun hHeld9=>?_)
   clear hK K
   refine pput ?_
   refine wpAnyH_done (by kernel_rfl) ?_ _
   refine REST A1 c1 ga2 _ ⟨⟨Blk.row HB2.out _,?_⟩,(HSL2.out.keep (Keep.row u2 ga2 #[.int .i64 4,.int .i64 x2.s.call,.int .i64 x2.d,.int .i64 x2.s.cen,.int .i64 x2.s.ep,.int .i64 x2.s.ans.length,.slice A1 (bodyL x2.pt).length c1]) (fun _ _ e=>e)).wide (fun _ _ f=>f.elim),hks⟩
   have h1:=HN2.out
   have h2:=HL5.out.lt
   have h3:=HG2.out
   exact ⟨by omega,by omega,by omega⟩
  ·go_simp
   have HB4:=hid (Blk.made wd 46 #[.int .i64 0,.int .i64 0,.int .i64 0,.int .i64 0,.int .i64 0,.int .i64 0,.slice none 0 0])
   have HK4:=hid (HKD.out.alloc (.cells #[.int .i64 0,.int .i64 0,.int .i64 0,.int .i64 0,.int .i64 0,.int .i64 0,.slice none 0 0] 46))
   have HN4:=hid (show w5.heap.size≤wd.heap.size from HKD.out.size)
   obtain ⟨ga4,hg4⟩:∃ g,g=wd.heap.size:=⟨_,rfl⟩
   rw [←hg4] at HB4 HN4 ⊢
   clear hg4
   generalize (wd.alloc (.cells #[.int .i64 0,.int .i64 0,.int .i64 0,.int .i64 0,.int .i64 0,.int .i64 0,.slice none 0 0] 46))=u4 at *
   refine hK.out _ _ (HS5.out _ HK4.out) (fun hHeld4=>?_)
   clear hK K
   refine pput ?_
   refine rd1 16 (fun K hK=>?_)
   go_simp
   (with_reducible refine (HBO.out _ HK4.out).mono ?_)
   rintro e9 u5 ⟨A5,c5,rfl,ho9,hk9⟩
   have HK5:=hid (HK4.out.then hk9)
   have hlt9:=HB4.out.lt
   have HSL5:=hid (ho9.sl (Av:=fun i=>i=ga4) (fun g9 hg9 e=>by have e2:g9=ga4:=e;omega))
   clear hlt9
   have HB5:=hid (HB4.out.keep hk9 (fun f=>f))
   clear ho9 hk9
   refine hK.out _ _ (HS5.out _ HK5.out) (fun hHeld5=>?_)
   clear hK K
   refine pput ?_
   refine tk 17 ?_
   refine rd1 19 (fun K hK=>?_)
   refine store_step rfl _ (.tmp 8) (.tmp 41) rfl (ga4) (#[.int .i64 4,.int .i64 x2.s.call,.int .i64 x2.d,.int .i64 x2.s.cen,.int .i64 x2.s.ep,.int .i64 x2.s.ans.length,.slice A5 (bodyL x2.pt).length c5]) rfl rfl _ _ HB5.out (by kernel_rfl) rfl (by kernel_rfl) ?_
   have hks:Same w5 (u5.setRow ga4 #[.int .i64 4,.int .i64 x2.s.call,.int .i64 x2.d,.int .i64 x2.s.cen,.int .i64 x2.s.ep,.int .i64 x2.s.ans.length,.slice A5 (bodyL x2.pt).length c5]):=HK5.out.trans (Keep.row _ _ _) (fun j hj e=>by have e2:j=ga4:=e;have:=HN4.out;omega)
   refine hK.out _ _ (HS5.out _ hks) (fun hHeld9=>?_)
   clear hK K
   refine pput ?_
   refine wpAnyH_done (by kernel_rfl) ?_ _
   refine REST A5 c5 ga4 _ ⟨⟨Blk.row HB5.out _,?_⟩,(HSL5.out.keep (Keep.row u5 ga4 #[.int .i64 4,.int .i64 x2.s.call,.int .i64 x2.d,.int .i64 x2.s.cen,.int .i64 x2.s.ep,.int .i64 x2.s.ans.length,.slice A5 (bodyL x2.pt).length c5]) (fun _ _ e=>e)).wide (fun _ _ f=>f.elim),hks⟩
   have h1:=HN4.out
   have h2:=HL5.out.lt
   have h3:=HG2.out
   exact ⟨by omega,by omega,by omega⟩
 case rest =>
  intro A9 c9 g8 w6 hF
  obtain ⟨⟨hb6,n1,n2,n3⟩,hs6,hk6⟩:=hF
  have HB6:=hid hb6
  have HK6:=hid hk6
  have HN6:=hid (And.intro n1 (And.intro n2 n3))
  have HWR:=hid (fun W (hk:Same w6 W)=>show Calls Tryz.prog 44 #[.agg #[.int .i64 4,.int .i64 x2.s.call,.int .i64 x2.d,.int .i64 x2.s.cen,.int .i64 x2.s.ep,.int .i64 x2.s.ans.length,.slice A9 (bodyL x2.pt).length c9]] W (NB W (encM (offM x2.pt))) from rwrite_any W (fun _=>False) (offM x2.pt) A9 c9 (hs6.same hk))
  unfold NB at HWR
  have HM6:=hid (HM5.out.keep hk6 (fun f=>f))
  have HL6:=hid (HL5.out.keep hk6 (fun f=>f))
  have HZ6:=hid (HZ5.out.keep hk6 (fun f=>f))
  have HR6:=hid (HR5.out.same hk6)
  have HKW:=hid (HK5.out.then hk6)
  clear hb6 n1 n2 n3 hs6 hk6
  go_upto_region 6 with fail
  have hk6d:Same w6 w6.drew:=(Keep.refl _ _).drew
  refine wp_region_held_drew (S:=fun W=>W.cell? ⟨g0,0,none⟩=some (.int .i64 q3.c.cen)∧W.cell? ⟨g2,3,none⟩=some (.int .i64 x2.s.cen)∧Blk W g8 46 #[.int .i64 4,.int .i64 x2.s.call,.int .i64 x2.d,.int .i64 x2.s.cen,.int .i64 x2.s.ep,.int .i64 x2.s.ans.length,.slice A9 (bodyL x2.pt).length c9]) (by kernel_rfl) ⟨HM6.out.at_ 0,HL6.out.at_ 3,HB6.out⟩ (fun hHeld=>?_)
  refine tk 0 ?_
  refine tk 1 ?_
  refine tk 4 ?_
  refine tk 5 ?_
  refine tk 6 ?_
  refine tk 7 ?_
  refine tk 8 ?_
  refine tk 9 ?_
  refine tL 10 (.tmp 8) (g8) 46 (#[.int .i64 4,.int .i64 x2.s.call,.int .i64 x2.d,.int .i64 x2.s.cen,.int .i64 x2.s.ep,.int .i64 x2.s.ans.length,.slice A9 (bodyL x2.pt).length c9]) (fun W hS=>hS.2.2) Tryz.underlying46 ?_
  have HMd:=hid (HM6.out.keep hk6d (fun f=>f))
  have HLd:=hid (HL6.out.keep hk6d (fun f=>f))
  have HZd:=hid (HZ6.out.keep hk6d (fun f=>f))
  have HBd:=hid (HB6.out.keep hk6d (fun f=>f))
  have HRd:=hid (HR6.out.same hk6d)
  have HKd:=hid (HKW.out.then hk6d)
  have HWd:=hid (fun W (hk:Same w6.drew W)=>HWR.out W (hk6d.then hk))
  have HSd:=hid (fun W (hk:Same w6.drew W)=>show W.cell? ⟨g0,0,none⟩=some (.int .i64 q3.c.cen)∧W.cell? ⟨g2,3,none⟩=some (.int .i64 x2.s.cen)∧Blk W g8 46 #[.int .i64 4,.int .i64 x2.s.call,.int .i64 x2.d,.int .i64 x2.s.cen,.int .i64 x2.s.ep,.int .i64 x2.s.ans.length,.slice A9 (bodyL x2.pt).length c9] from ⟨((HM6.out.keep hk6d (fun f=>f)).keep hk (fun f=>f)).at_ 0,((HL6.out.keep hk6d (fun f=>f)).keep hk (fun f=>f)).at_ 3,(HB6.out.keep hk6d (fun f=>f)).keep hk (fun f=>f)⟩)
  have hqo:q3.out.length≤900000:=by
   have h1:=congrArg XS.out HP4.out
   have h2:=congrArg List.length h1
   simp only [QS.pt,XS.put,List.length_map] at h2
   omega
  clear hHeld hk6d HM6 HL6 HZ6 HB6 HR6 HKW HWR
  generalize w6.drew=wd at *
  refine rd1 2 (fun K hK=>?_)
  have e18:wd.cell? ⟨g0,18,none⟩=some (.slice q3.OA q3.out.length q3.oc):=HMd.out.at_ 18
  go_simp
  clear e18
  refine hK.out _ _ (HSd.out _ (Keep.refl _ _)) (fun hHeld2=>?_)
  clear hK K
  refine pput ?_
  refine rd1 3 (fun K hK=>?_)
  refine EPk.step2 rfl (.tmp 42) (.tmp 44) rfl (.slice none 0 0) q3.OA q3.out.length q3.oc rfl rfl wd.heap.size 0 [] (q3.out.flatMap PkA.cells) q3.out.length (q3.out.flatMap PkA.cells) (Nat.zero_add _) rfl (Own.nil _ _ _ _) (flat_len _ 3 (fun _=>rfl) _) (HRd.out.out.src (Keep.refl (fun _=>False) wd)) (pks_one _) (by omega) (by unfold maxLen;omega) (Nat.le_refl _) (by
   intro A3 c3 u3 ho hg hw
   have HO3:=hid ho
   have hk3:Same wd u3:=(Keep.refl (fun _=>False) wd).app (Own.nil wd wd.heap.size 56 3) hg (fun g h1 h2=>by omega)
   have HK3:=hid hk3
   clear ho hg hw
   refine hK.out _ _ (HSd.out _ hk3) (fun hHeld3=>?_)
   clear hK K hk3
   refine pput ?_
   refine rd1 11 (fun K hK=>?_)
   go_simp
   (with_reducible refine (HWd.out _ HK3.out).mono ?_)
   rintro e9 u4 ⟨A4,c4,rfl,hs4,hk4⟩
   have HK4:=hid (HK3.out.then hk4)
   have HO4:=hid (HO3.out.keepB hk4 (fun _ _ f=>f))
   have HS4:=hid hs4
   clear hs4 hk4
   refine hK.out _ _ (HSd.out _ HK4.out) (fun hHeld4=>?_)
   clear hK K
   refine pput ?_
   refine tk 12 ?_
   refine rd1 13 (fun K hK=>?_)
   go_simp
   have HBy:=hid (Blk.made u4 56 #[.int .i64 q3.c.cen,.int .i64 x2.s.cen,.slice A4 (encM (offM x2.pt)).length c4])
   have HK5':=hid (HK4.out.alloc (.cells #[.int .i64 q3.c.cen,.int .i64 x2.s.cen,.slice A4 (encM (offM x2.pt)).length c4] 56))
   have HO5:=hid (HO4.out.keepB ((Keep.refl (fun _=>False) u4).alloc (.cells #[.int .i64 q3.c.cen,.int .i64 x2.s.cen,.slice A4 (encM (offM x2.pt)).length c4] 56)) (fun _ _ f=>f))
   have HS5':=hid (HS4.out.same ((Keep.refl (fun _=>False) u4).alloc (.cells #[.int .i64 q3.c.cen,.int .i64 x2.s.cen,.slice A4 (encM (offM x2.pt)).length c4] 56)))
   obtain ⟨gy,hgy⟩:∃ g,g=u4.heap.size:=⟨_,rfl⟩
   rw [←hgy] at HBy ⊢
   clear hgy
   generalize (u4.alloc (.cells #[.int .i64 q3.c.cen,.int .i64 x2.s.cen,.slice A4 (encM (offM x2.pt)).length c4] 56))=u5 at *
   refine hK.out _ _ (HSd.out _ HK5'.out) (fun hHeld5=>?_)
   clear hK K
   refine pput ?_
   refine rd1 14 (fun K hK=>?_)
   refine EPk.step2 rfl (.tmp 45) (.tmp 55) rfl (.slice A3 q3.out.length c3) (some ⟨gy,0,none⟩) 1 1 rfl rfl wd.heap.size q3.out.length (q3.out.flatMap PkA.cells) (PkA.cells (⟨q3.c.cen,x2.s.cen,A4,c4,encM (offM x2.pt)⟩:PkA)) (q3.out.length+1) ((q3.out++[(⟨q3.c.cen,x2.s.cen,A4,c4,encM (offM x2.pt)⟩:PkA)]).flatMap PkA.cells) rfl (by rw [List.flatMap_append,List.flatMap_singleton]) HO5.out rfl (fun _=>⟨_,rfl,src_blk HBy.out⟩) (pk_one _) (by omega) (by unfold maxLen;omega) HK5'.out.size (by
    intro A6 c6 u6 ho hg hw
    have HO6:=hid ho
    have HK6':=hid (HK5'.out.app HO5.out hg (fun g h1 h2=>by omega))
    have hsb:=(HS5'.out.keep ((Keep.refl (fun i=>(Value.slice A3 q3.out.length c3).ownBlock=some i) u5).grown hg (fun x e _=>e)) (fun i _ e=>HO3.out.lt i e)).wide (Av':=fun i=>Av i∨i=g0∨i=g0+1∨i=g2) (fun i _ ha=>by
     have h1:=HLd.out.lt
     have h2:=HK3.out.size
     have h3:=HG2.out
     have h4:=(HKd.out.then HK3.out).size
     rcases ha with ha | ha | ha | ha
     ·exact Nat.lt_of_lt_of_le (HAV.out i ha) h4
     ·omega
     ·omega
     ·omega)
    have HSB:=hid hsb
    have c18:u6.cell? ⟨g0,18,none⟩=some (.slice q3.OA q3.out.length q3.oc):=(HMd.out.keep HK6'.out (fun f=>f)).at_ 18
    have f18:=(HMd.out.keep HK6'.out (fun f=>f)).free 18
    obtain ⟨q4,hq4⟩:∃ q4:QS,q4={ q3 with OA:=A6,oc:=c6,out:=q3.out++[(⟨q3.c.cen,x2.s.cen,A4,c4,encM (offM x2.pt)⟩:PkA)] }:=⟨_,rfl⟩
    have hM7:Blk (u6.setCell ⟨g0,18,none⟩ (.slice A6 (q3.out.length+1) c6)) g0 35 q4.cells.toArray:=by
     have h1:=(HMd.out.keep HK6'.out (fun f=>f)).put 18 (.slice A6 (q3.out.length+1) c6)
     have h2:q4.cells.toArray=q3.cells.toArray.setIfInBounds 18 (.slice A6 (q3.out.length+1) c6):=by rw [hq4];simp [QS.cells]
     rw [h2];exact h1
    have hL7:Blk (u6.setCell ⟨g0,18,none⟩ (.slice A6 (q3.out.length+1) c6)) g2 53 x2.cells.toArray:=(HLd.out.keep HK6'.out (fun f=>f)).far (p:=⟨g0,18,none⟩) (by have:=HG2.out;show ¬g2=g0;omega) _
    have hZ7:Blk (u6.setCell ⟨g0,18,none⟩ (.slice A6 (q3.out.length+1) c6)) (g0+1) 35 zero20.toArray:=(HZd.out.keep HK6'.out (fun f=>f)).far (p:=⟨g0,18,none⟩) (by show ¬g0+1=g0;omega) _
    have hB7:Blk (u6.setCell ⟨g0,18,none⟩ (.slice A6 (q3.out.length+1) c6)) g8 46 #[.int .i64 4,.int .i64 x2.s.call,.int .i64 x2.d,.int .i64 x2.s.cen,.int .i64 x2.s.ep,.int .i64 x2.s.ans.length,.slice A9 (bodyL x2.pt).length c9]:=(HBd.out.keep HK6'.out (fun f=>f)).far (p:=⟨g0,18,none⟩) (by exact HN6.out.1) _
    have hkp:Keep (fun i=>i=g0) u6 (u6.setCell ⟨g0,18,none⟩ (.slice A6 (q3.out.length+1) c6)):=(Keep.refl _ _).put 18 _
    have hc4:q4.c.cen=q3.c.cen:=by rw [hq4]
    clear ho hg hw hsb
    refine hK.out _ _ (HSd.out _ HK6'.out) (fun hHeld6=>?_)
    clear hK K
    refine pput ?_
    refine tk 15 ?_
    refine rd1 16 (fun K hK=>?_)
    go_simp
    generalize (u6.setCell ⟨g0,18,none⟩ (.slice A6 (q3.out.length+1) c6))=w7 at *
    refine hK.out _ _ ⟨by rw [←hc4];exact hM7.at_ 0,hL7.at_ 3,hB7⟩ (fun hHeld7=>?_)
    clear hK K
    refine pput ?_
    refine wpAnyH_done (by kernel_rfl) ?_ _
    have hkr:Keep (fun i=>i=g0+1) w7 (w7.setRow (g0+1) q4.cells.toArray):=Keep.row _ _ _
    have hkf:Keep (fun i=>i=g0∨i=g0+1) u6 (w7.setRow (g0+1) q4.cells.toArray):=(hkp.wide (fun i _ e=>.inl e)).trans hkr (fun i _ e=>.inr e)
    have hks:Same w (w7.setRow (g0+1) q4.cells.toArray):=(HKd.out.then HK6'.out).trans hkf (fun j hj e=>by have:=HG0.out;rcases e with e | e <;> omega)
    have hPost:QPost w Av q.c (q.pt.offer i x.pt now) (.returned (.agg q4.cells.toArray)) (w7.setRow (g0+1) q4.cells.toArray):=by
     generalize (w7.setRow (g0+1) q4.cells.toArray)=wf at hks hkf ⊢
     have hav:∀ j,(j=g0∨j=g0+1)→Av j∨j=g0∨j=g0+1∨j=g2:=fun j hj=>by rcases hj with hj | hj;exact .inr (.inl hj);exact .inr (.inr (.inl hj))
     refine ⟨q4,rfl,?_,?_,by rw [hq4];exact HC4.out,hks⟩
     ·have h0:=(((HRd.out.same HK6'.out).keep hkf (fun j _ hj=>hav j hj)).wide (Av':=Av) (fun j _ hj=>.inl hj))
      have hb9:=(HSB.out.keep hkf (fun j _ hj=>hav j hj)).wide (Av':=Av) (fun j _ hj=>.inl hj)
      have ho9:Sl wf Av 3 A6 (q3.out.length+1) ((q3.out++[(⟨q3.c.cen,x2.s.cen,A4,c4,encM (offM x2.pt)⟩:PkA)]).flatMap PkA.cells):=by
       refine (HO6.out.keepB hkf (fun g hg hs=>?_)).sl (fun g hg ha=>?_)
       ·have h1:=HO6.out.block g hg
        have h2:=HMd.out.lt
        have h3:=HZd.out.lt
        rcases hs with hs | hs <;> omega
       ·have h1:=HAV.out g ha
        have h2:=HKd.out.size
        omega
      rw [hq4]
      refine ⟨h0.L,h0.lin,h0.who,h0.ep,by simpa using ho9,fun y hy=>?_,h0.ev⟩
      rcases List.mem_append.1 hy with hy | hy
      ·exact h0.body y hy
      ·rw [List.mem_singleton] at hy;subst hy;exact hb9
     ·have h1:q4.pt={ q3.pt with out:=q3.pt.out++[⟨q3.pt.cen,x2.s.cen,encM (offM x2.pt)⟩] }:=by rw [hq4];simp [QS.pt,PkA.pt]
      rw [h1,HP4.out,HX2.out.1,HXP.out]
      rfl
    have HM7:=hid hM7
    have HZ7:=hid hZ7
    have HPO:=hid hPost
    clear hM7 hL7 hZ7 hB7 hkp hkr hkf hks hPost hq4 hc4
    go_wp2_with (first
     | (refine wpList_load_row rfl _ (.tmp 3) rfl g0 rfl _ q4.cells.toArray (0,0) _ HM7.out Tryz.underlying35 rfl (by kernel_rfl) ?_)
     | (refine wpList_store_row rfl _ (.tmp 6) (.tmp 58) rfl (g0+1) q4.cells.toArray rfl rfl _ _ HZ7.out (by kernel_rfl) rfl (one_toArray (q_one q4)) ?_))
    exact bodyPost_ret (results_cell_row rfl _ _ _ _ _ _ _ rfl (HZ7.out.row _) Tryz.underlying35 rfl (by kernel_rfl)) rfl HPO.out))
theorem load_mid_step {P:Program} {ops:Array Oper} {o:Oper} {a:Act} {w:World} {K:Act→World→Prop} {Q:Exit→Act→World→Prop} {F:Prop} (hg:o.guard=none) (ty:TypeId) (x:Operand) (ho:o.op=.load ty x) (b of:Nat) (hx:a.eval x=.pointer (some ⟨b,of,none⟩)) (cs:List Value) (d:TypeDesc) (hh:w.rangeAt b of cs)
 (hu:P.underlying ty=some d) (hd:d.isRow=true) (hi:(P.info? ty).map (·.size)=some cs.length) (hK:K (a.put o.dst (.agg cs.toArray)) w) :
 if Region.wanted o (yielded ops a.tmps)=true then Oper.wp P o a w K Q else F:=by
 rw [if_pos (by simp [Region.wanted,hg])]
 exact wp_load_mid ty x ho b of hx cs d hh hu hd hi hK
theorem store_mid_step {P:Program} {ops:Array Oper} {o:Oper} {a:Act} {w:World} {K:Act→World→Prop} {Q:Exit→Act→World→Prop} {F:Prop} (hg:o.guard=none) (ty:TypeId) (x y:Operand) (ho:o.op=.store ty x y) (b of:Nat) (cells:Array Value) (hx:a.eval x=.pointer (some ⟨b,of,none⟩)) (hy:a.eval y=.agg cells)
 (ht:w.there b of cells.size) (hi:(P.info? ty).map (·.size)=some cells.size) (h1:cells.all (·.oneCell')=true) (hK:K (a.put o.dst undef) (w.setCells b of cells.toList)) :
 if Region.wanted o (yielded ops a.tmps)=true then Oper.wp P o a w K Q else F:=by
 rw [if_pos (by simp [Region.wanted,hg])]
 exact wp_store_mid ty x y ho b of cells hx hy ht hi h1 hK
theorem cl_one (s:CL) (A:Option Addr) (c:Nat):∀ u∈s.cells A c,u.oneCell'=true:=by
 intro u hu
 simp only [CL.cells,List.mem_cons,List.not_mem_nil,or_false] at hu
 rcases hu with rfl | rfl | rfl | rfl | rfl | rfl | rfl | rfl <;> rfl
theorem Blk.line {w:World} {g:Nat} {x:QA} (h:Blk w g 53 x.cells.toArray) (s:CL) (A:Option Addr) (c:Nat):Blk (w.setCells g 0 (s.cells A c)) g 53 ({ x with s:=s,A:=A,c:=c }:QA).cells.toArray:=by
 have h1:=(((((((h.put 0 (.int .i64 s.call)).put 1 (.int .i64 s.st)).put 2 (.int .i64 s.since)).put 3 (.int .i64 s.cen)).put 4 (.int .i64 s.ep)).put 5 (.string s.name)).put 6 (.int .i64 s.ver)).put 7 (.slice A s.ans.length c)
 simpa [QA.cells,CL.cells,World.setCells] using h1
theorem Blk.lineRange {w:World} {g:Nat} {x:QA} (h:Blk w g 53 x.cells.toArray):w.rangeAt g 0 (x.s.cells x.A x.c):=by
 intro j v hv
 have hj:j<8:=(List.getElem?_eq_some_iff.1 hv).1
 rw [Nat.zero_add,h.at_ j,List.getElem?_toArray]
 have h2:x.cells=x.s.cells x.A x.c++[.int .i64 x.d,.slice x.B x.src.length x.bc,.int .i64 x.last]:=rfl
 rw [h2,List.getElem?_append_left (by exact hj)]
 exact hv
theorem Blk.lineThere {w:World} {g:Nat} {x:QA} (h:Blk w g 53 x.cells.toArray):w.there g 0 8:=fun j hj=>by
 rw [Nat.zero_add]
 refine ⟨?_,h.free j⟩
 obtain ⟨u,hu⟩:=get_some (l:=x.cells) (k:=j) (by show j<11;omega)
 rw [h.at_ j,List.getElem?_toArray,hu];rfl
theorem assign_own {s:CL} {a b t:Int} (h:assignE s a b t=0):(assignS s a b t).cen=a∧(assignS s a b t).ep=b:=by
 unfold assignS;rw [if_pos h];exact ⟨rfl,rfl⟩
set_option maxHeartbeats 8000000 in
set_option maxRecDepth 100000 in
theorem bindQ (w:World) (Av:Nat→Prop) (hAv:∀ i,Av i→i<w.heap.size) (q:QS) (h:RX w Av q) (hn:q.R.length≤1000) (hno:q.out.length≤900000) (hne:q.ev.length≤900000) (now:Int) (hv:vN now 0=true) (i:Nat) (x:QA) (hx:q.R[i]? = some x) (hok:LnOk x.pt)
 (dn:Nat) (hd:x.d=(dn:Int)) (a b:Int) (ha:q.who[dn]? = some a) (hb:q.ep[dn]? = some b) (hE:assignE x.s a b now=0):Calls Tryz.prog 105 #[.agg q.cells.toArray,.int .i64 i,.int .i64 now] w (QPost w Av q.c (q.pt.bind i x.pt now)):=by
 have hm:=(Blk.made w 35 q.cells.toArray).alloc (.cells zero20.toArray 35)
 have hz:=Blk.made (w.alloc (.cells q.cells.toArray 35)) 35 zero20.toArray
 have hw:Same w ((w.alloc (.cells q.cells.toArray 35)).alloc (.cells zero20.toArray 35)):=((Keep.refl _ _).alloc _).alloc _
 rw [World.size_alloc] at hz
 generalize hw1:((w.alloc (.cells q.cells.toArray 35)).alloc (.cells zero20.toArray 35))=w1 at *
 have hsz:w1.heap.size=w.heap.size+2:=by rw [←hw1];simp only [World.size_alloc]
 have hi:=(List.getElem?_eq_some_iff.1 hx).1
 obtain ⟨rb,off,hLA,hrb,_,hrow⟩:=(h.L.same hw).at_ (by omega)
 have hrg:=range_row hrow hx
 have z15:w1.cell? ⟨w.heap.size,15,none⟩=some (.slice q.LA q.R.length q.lc):=hm.at_ 15
 rw [hLA] at z15
 have HM:=hid hm
 have HZ:=hid hz
 have HW:=hid hw
 have HR:=hid h
 have HAV:=hid hAv
 have HSZ:=hid hsz
 have HXX:=hid hx
 have HQX:=hid (h.lin x (List.mem_of_getElem? hx))
 have HOK:=hid hok
 have HRG:=hid hrg
 have HV:=hid hv
 have HA:=hid ha
 have HB:=hid hb
 have HE:=hid hE
 have HD:=hid hd
 have HZL:=hid (Blk.made w1 53 #[.int .i64 0,.int .i64 0,.int .i64 0,.int .i64 0,.int .i64 0,.string ⟨#[]⟩,.int .i64 0,.slice none 0 0,.int .i64 0,.slice none 0 0,.int .i64 0])
 have hii:(i:Int)<(q.R.length:Int):=by omega
 have hi0:(0:Int)≤(i:Int):=Int.natCast_nonneg _
 clear hm hz hw h hAv hx hok hrow hrg hrb hLA hsz hv ha hb hE hd
 obtain ⟨g0,hg0⟩:∃ g,g=w.heap.size:=⟨_,rfl⟩
 go_enter Tryz.func105,Tryz.ntmps105
 go_upto_region 1 with fail
 try simp only [zero20] at hw1
 try rw [hw1]
 rw [←hg0] at HM HZ z15 HSZ ⊢
 have HG0:=hid hg0
 clear hg0 hw1
 go_upto_region 2 with (first
  | (refine wpList_load_mid rfl _ (.tmp 11) rfl rb (off+i * 11) rfl x.cells _ HRG.out Tryz.underlying53 rfl (by kernel_rfl) ?_)
  | (refine wpList_store_row rfl _ (.tmp 7) (.tmp 12) rfl w1.heap.size x.cells.toArray rfl rfl _ _ HZL.out (by kernel_rfl) rfl (one_toArray (qa_one x)) ?_))
 obtain ⟨g2,hg2⟩:∃ g,g=w1.heap.size:=⟨_,rfl⟩
 have hL2:Blk ((w1.alloc (.cells #[.int .i64 0,.int .i64 0,.int .i64 0,.int .i64 0,.int .i64 0,.string ⟨#[]⟩,.int .i64 0,.slice none 0 0,.int .i64 0,.slice none 0 0,.int .i64 0] 53)).setRow w1.heap.size x.cells.toArray) w1.heap.size 53 x.cells.toArray:=HZL.out.row _
 have hk2:Same w1 ((w1.alloc (.cells #[.int .i64 0,.int .i64 0,.int .i64 0,.int .i64 0,.int .i64 0,.string ⟨#[]⟩,.int .i64 0,.slice none 0 0,.int .i64 0,.slice none 0 0,.int .i64 0] 53)).setRow w1.heap.size x.cells.toArray):=((Keep.refl (fun _=>False) w1).alloc _).trans (Keep.row _ _ _) (fun j hj e=>by have e2:j=w1.heap.size:=e;omega)
 obtain ⟨w2,hw2⟩:∃ x',x'=(w1.alloc (.cells #[.int .i64 0,.int .i64 0,.int .i64 0,.int .i64 0,.int .i64 0,.string ⟨#[]⟩,.int .i64 0,.slice none 0 0,.int .i64 0,.slice none 0 0,.int .i64 0] 53)).setRow w1.heap.size x.cells.toArray:=⟨_,rfl⟩
 rw [←hw2] at hL2 hk2 ⊢
 rw [←hg2] at hL2 ⊢
 have HG2:=hid (show g2=g0+2 from by rw [hg2,HSZ.out])
 have HM2:=hid (HM.out.keep hk2 (fun f=>f))
 have HZ2:=hid (HZ.out.keep hk2 (fun f=>f))
 have HL2:=hid hL2
 have HK2:=hid (HW.out.then hk2)
 clear hL2 hk2 hw2 hg2 z15 HRG HZL HM HZ
 obtain ⟨wb,wo,hWA,hwb,hwc⟩:=int_at HR.out.who HA.out
 obtain ⟨eb,eo,hEA,heb,hec⟩:=int_at HR.out.ep HB.out
 have hw1':=(List.getElem?_eq_some_iff.1 HA.out).1
 have he1':=(List.getElem?_eq_some_iff.1 HB.out).1
 have hw2':(dn:Int)<(q.who.length:Int):=by omega
 have he2':(dn:Int)<(q.ep.length:Int):=by omega
 have hd0:(0:Int)≤(dn:Int):=Int.natCast_nonneg _
 have HS2:=hid (fun W (hk:Same w W) (hM:Blk W g0 35 q.cells.toArray) (h8:W.cell? ⟨g2,8,none⟩=some (.int .i64 x.d))=>show W.cell? ⟨g0,16,none⟩=some (.slice (some ⟨wb,wo,none⟩) q.who.length q.wc)∧W.cell? ⟨g0,17,none⟩=some (.slice (some ⟨eb,eo,none⟩) q.ep.length q.ec)∧W.cell? ⟨g2,8,none⟩=some (.int .i64 (dn:Int))∧W.cell? ⟨wb,wo+dn,none⟩=some (.int .i64 a)∧W.cell? ⟨eb,eo+dn,none⟩=some (.int .i64 b) from
  ⟨(hM.at_ 16).trans (by rw [←hWA];rfl),(hM.at_ 17).trans (by rw [←hEA];rfl),by rw [←HD.out];exact h8,(hk.cell (p:=⟨wb,wo+dn,none⟩) hwb (fun f=>f)).trans hwc,(hk.cell (p:=⟨eb,eo+dn,none⟩) heb (fun f=>f)).trans hec⟩)
 have hkd:Same w2 w2.drew:=(Keep.refl _ _).drew
 clear hwc hec hWA hEA
 refine wp_region_held_drew (S:=fun W=>W.cell? ⟨g0,16,none⟩=some (.slice (some ⟨wb,wo,none⟩) q.who.length q.wc)∧W.cell? ⟨g0,17,none⟩=some (.slice (some ⟨eb,eo,none⟩) q.ep.length q.ec)∧W.cell? ⟨g2,8,none⟩=some (.int .i64 (dn:Int))∧W.cell? ⟨wb,wo+dn,none⟩=some (.int .i64 a)∧W.cell? ⟨eb,eo+dn,none⟩=some (.int .i64 b)) (by kernel_rfl) (HS2.out _ (HK2.out.then hkd) (HM2.out.keep hkd (fun f=>f)) ((HL2.out.keep hkd (fun f=>f)).at_ 8)) (fun hHeld=>?_)
 refine tk 0 ?_
 refine tk 2 ?_
 refine tk 3 ?_
 refine tk 4 ?_
 refine tk 5 ?_
 refine tk 6 ?_
 refine tk 7 ?_
 refine tk 8 ?_
 refine tk 9 ?_
 refine tk 10 ?_
 refine tk 11 ?_
 refine tk 12 ?_
 refine tk 13 ?_
 refine tk 14 ?_
 have HMd:=hid (HM2.out.keep hkd (fun f=>f))
 have HLd:=hid (HL2.out.keep hkd (fun f=>f))
 have HZd:=hid (HZ2.out.keep hkd (fun f=>f))
 have HKd:=hid (HK2.out.then hkd)
 have hqd:=HQX.out.later HKd.out (Av':=fun j=>Av j∨j=g0∨j=g0+1∨j=g2) (fun j hj=>by
  have h1:=HG0.out
  have h2:=HG2.out
  rcases hj with hj | hj | hj | hj
  ·exact .inl hj
  ·exact .inr (by omega)
  ·exact .inr (by omega)
  ·exact .inr (by omega))
 have HQd:=hid hqd
 have HBI:=hid (rbind_any w2.drew (fun j=>Av j∨j=g0∨j=g0+1∨j=g2) x.A x.c x.s hqd.an a b now)
 unfold RefPost at HBI
 clear hHeld hkd hqd HM2 HL2 HZ2 HK2
 generalize w2.drew=wd at *
 refine rd1 1 (fun K hK=>?_)
 refine load_mid_step rfl _ (.tmp 14) rfl g2 0 rfl (x.s.cells x.A x.c) _ HLd.out.lineRange Tryz.underlying50 rfl (by kernel_rfl) ?_
 refine hK.out _ _ (HS2.out _ HKd.out HMd.out (HLd.out.at_ 8)) (fun hHeld1=>?_)
 clear hK K
 refine pput ?_
 refine rd1 15 (fun K hK=>?_)
 go_simp
 (with_reducible refine HBI.out.mono ?_)
 rintro e9 w3 ⟨A3,c3,rfl,hs3,hk3⟩
 have HK3:=hid (HKd.out.then hk3)
 have HM3:=hid (HMd.out.keep hk3 (fun f=>f))
 have HL3:=hid (HLd.out.keep hk3 (fun f=>f))
 have HZ3:=hid (HZd.out.keep hk3 (fun f=>f))
 have HQ3:=hid (HQd.out.same hk3)
 have HS3:=hid hs3
 clear hs3 hk3
 refine hK.out _ _ (HS2.out _ HK3.out HM3.out (HL3.out.at_ 8)) (fun hHeld3=>?_)
 clear hK K
 refine pput ?_
 have hor:=assign_own HE.out
 have HOW:=hid hor
 have hs9:=HOK.out.bind a b now
 have HOK2:=hid (show LnOk { x.pt with s:=assignS x.s a b now } from hs9)
 have HCA:=hid (assignS_call x.s a b now)
 obtain ⟨s2,hs2⟩:∃ s2,s2=assignS x.s a b now:=⟨_,rfl⟩
 rw [←hs2] at HOW HOK2 HCA HS3 ⊢
 have HSE:=hid hs2
 clear hs2 hor hs9
 refine tk 16 ?_
 refine tk 17 ?_
 refine tk 18 ?_
 refine tk 19 ?_
 have hL4:Blk (w3.setCells g2 0 (s2.cells A3 c3)) g2 53 ({ x with s:=s2,A:=A3,c:=c3 }:QA).cells.toArray:=HL3.out.line s2 A3 c3
 have hkc:Keep (fun j=>j=g2) w3 (w3.setCells g2 0 (s2.cells A3 c3)):=Keep.cells g2 _ _ _
 have hM4:=HM3.out.keep hkc (fun e=>by have e2:g0=g2:=e;have:=HG2.out;omega)
 have hZ4:=HZ3.out.keep hkc (fun e=>by have e2:g0+1=g2:=e;have:=HG2.out;omega)
 have hk4:Same w (w3.setCells g2 0 (s2.cells A3 c3)):=HK3.out.trans hkc (fun j hj e=>by have e2:j=g2:=e;have:=HG2.out;have:=HG0.out;omega)
 have hq4:QAt (w3.setCells g2 0 (s2.cells A3 c3)) (fun j=>Av j∨j=g0∨j=g0+1∨j=g2) ({ x with s:=s2,A:=A3,c:=c3 }:QA):=⟨HS3.out.keep hkc (fun j _ e=>.inr (.inr (.inr e))),HQ3.out.src.keep hkc (fun j _ e=>.inr (.inr (.inr e)))⟩
 have HTH:Hid (w3.there g2 0 (s2.cells A3 c3).toArray.size):=hid HL3.out.lineThere
 refine rd1 20 (fun K hK=>?_)
 with_reducible refine store_mid_step ?_ 50 (.tmp 32) (.tmp 30) ?_ g2 0 (s2.cells A3 c3).toArray ?_ ?_ HTH.out ?_ (one_toArray (cl_one _ _ _)) ?_
 ·rfl
 ·rfl
 ·rfl
 ·rfl
 ·kernel_rfl
 rw [show (s2.cells A3 c3).toArray.toList=s2.cells A3 c3 from rfl]
 obtain ⟨x2,hx2⟩:∃ x2:QA,x2={ x with s:=s2,A:=A3,c:=c3 }:=⟨_,rfl⟩
 rw [←hx2] at hL4 hq4
 generalize (w3.setCells g2 0 (s2.cells A3 c3))=w4 at *
 refine hK.out _ _ (HS2.out _ hk4 hM4 (by rw [hL4.at_ 8,hx2];rfl)) (fun hHeld4=>?_)
 clear hK K
 refine pput ?_
 refine wpAnyH_done (by kernel_rfl) ?_ _
 have HAV2:=hid (fun (W:World) (hk:Same w4 W) (j:Nat) (hj:Av j∨j=g0∨j=g0+1∨j=g2)=>show j<W.heap.size from by
  have h1:=hL4.lt
  have h2:=HG2.out
  have h3:=hk.size
  rcases hj with hj | hj | hj | hj
  ·exact Nat.lt_of_lt_of_le (HAV.out j hj) (Nat.le_trans hk4.size h3)
  ·omega
  ·omega
  ·omega)
 have hr4:=HR.out.later hk4 (Av':=fun j=>Av j∨j=g0∨j=g0+1∨j=g2) (fun j hj=>by
  have h1:=HG0.out
  have h2:=HG2.out
  rcases hj with hj | hj | hj | hj
  ·exact .inl hj
  ·exact .inr (by omega)
  ·exact .inr (by omega)
  ·exact .inr (by omega))
 have HSET:=hid (set_any w4 _ (HAV2.out w4 (Keep.refl _ _)) q hr4 hn i hi x2 hq4)
 unfold QPost at HSET
 have HXP:=hid (show x2.pt=({ x.pt with s:=s2 }:Ln) from by rw [hx2];rfl)
 have HXS:=hid (show x2.s=s2 from by rw [hx2])
 have HL4:=hid hL4
 have HM4:=hid hM4
 have HZ4:=hid hZ4
 have HK4:=hid hk4
 clear hHeld1 hHeld3 hHeld4 hx2 hL4 hM4 hZ4 hk4 hq4 hr4 hkc HS2 HMd HLd HZd HKd HQd HBI HK3 HM3 HL3 HZ3 HQ3 HS3
 go_upto_region 4 with (first
  | (refine wpList_load_row rfl _ (.tmp 3) rfl g0 rfl _ q.cells.toArray (0,0) _ HM4.out Tryz.underlying35 rfl (by kernel_rfl) ?_)
  | (refine wpList_load_row rfl _ (.tmp 7) rfl g2 rfl _ x2.cells.toArray (0,0) _ HL4.out Tryz.underlying53 rfl (by kernel_rfl) ?_)
  | (go_at_call 108;(with_reducible refine HSET.out.mono ?_);rintro e w5 ⟨q3,rfl,hr5,hp5,hc5,hk5⟩
     have HR5:=hid hr5
     have HP5:=hid hp5
     have HC5:=hid hc5
     have HK5:=hid hk5
     have HM5:=hid (HM4.out.keep hk5 (fun f=>f))
     clear hr5 hp5 hc5 hk5)
  | (refine wpList_store_row rfl _ (.tmp 3) (.tmp 36) rfl g0 q3.cells.toArray rfl rfl _ _ HM5.out (by kernel_rfl) rfl (one_toArray (q_one q3)) ?_))
 have hM6:=HM5.out.row q3.cells.toArray
 have hkr:Keep (fun j=>j=g0) w5 (w5.setRow g0 q3.cells.toArray):=Keep.row _ _ _
 have hk6:Same w (w5.setRow g0 q3.cells.toArray):=(HK4.out.then HK5.out).trans hkr (fun j hj e=>by have e2:j=g0:=e;have:=HG0.out;omega)
 have hr6:=HR5.out.keep hkr (fun j _ e=>.inr (.inl e))
 have hl6:=(HL4.out.keep HK5.out (fun f=>f)).keep hkr (fun e=>by have e2:g2=g0:=e;have:=HG2.out;omega)
 have hz6:=(HZ4.out.keep HK5.out (fun f=>f)).keep hkr (fun e=>by have e2:g0+1=g0:=e;omega)
 have hs46:w4.heap.size≤(w5.setRow g0 q3.cells.toArray).heap.size:=Nat.le_trans HK5.out.size hkr.size
 generalize (w5.setRow g0 q3.cells.toArray)=w6 at *
 have hev:q3.ev.length≤900000:=by
  have h1:=congrArg XS.ev HP5.out
  simp only [QS.pt,XS.put] at h1
  rw [h1];exact hne
 have HEV:=hid (show Calls Tryz.prog 104 #[.agg q3.cells.toArray,.agg #[.int .i64 3,.int .i64 now,.int .i64 x2.s.cen,.int .i64 x2.s.call,.int .i64 x2.s.ep,.int .i64 0,.int .i64 0,.int .i64 0,.slice none 0 0,.int .i64 0,.int .i64 0,.int .i64 0,.int .i64 0,.int .i64 0,.int .i64 0,.int .i64 0,.int .i64 0,.int .i64 0,.int .i64 0,.int .i64 0,.int .i64 0,.int .i64 0,.int .i64 0,.int .i64 0,.int .i64 0,.slice none 0 0,.slice none 0 0,.slice none 0 0]] w6 (QPost w6 (fun j=>Av j∨j=g0∨j=g0+1∨j=g2) q3.c (q3.pt.evt ⟨3,now,x2.s.cen,x2.s.call,x2.s.ep,0⟩)) from
  event_any w6 _ (fun j hj=>Nat.lt_of_lt_of_le (HAV2.out w4 (Keep.refl _ _) j hj) hs46) q3 hr6 hev ⟨3,now,x2.s.cen,x2.s.call,x2.s.ep,0⟩)
 unfold QPost at HEV
 have y0:w6.cell? ⟨g2,0,none⟩=some (.int .i64 x2.s.call):=hl6.at_ 0
 have y3:w6.cell? ⟨g2,3,none⟩=some (.int .i64 x2.s.cen):=hl6.at_ 3
 have y4:w6.cell? ⟨g2,4,none⟩=some (.int .i64 x2.s.ep):=hl6.at_ 4
 have HM6:=hid hM6
 have HL6:=hid hl6
 have HZ6:=hid hz6
 have HK6:=hid hk6
 have HS46:=hid hs46
 clear hM6 hkr hk6 hr6 hl6 hz6 hs46 hev HM4 HM5 HL4 HZ4 HR5 HSET
 go_upto_region 5 with (first
  | (refine wpList_load_row rfl _ (.tmp 3) rfl g0 rfl _ q3.cells.toArray (0,0) _ HM6.out Tryz.underlying35 rfl (by kernel_rfl) ?_)
  | (go_at_call 104;(with_reducible refine HEV.out.mono ?_);rintro e w7 ⟨q5,rfl,hr7,hp7,hc7,hk7⟩
     have HR7:=hid hr7
     have HP7:=hid hp7
     have HC7:=hid hc7
     have HK7:=hid hk7
     have HM7:=hid (HM6.out.keep hk7 (fun f=>f))
     clear hr7 hp7 hc7 hk7)
  | (refine wpList_store_row rfl _ (.tmp 3) (.tmp 49) rfl g0 q5.cells.toArray rfl rfl _ _ HM7.out (by kernel_rfl) rfl (one_toArray (q_one q5)) ?_))
 have hM8:=HM7.out.row q5.cells.toArray
 have hkr:Keep (fun j=>j=g0) w7 (w7.setRow g0 q5.cells.toArray):=Keep.row _ _ _
 have hk8:Same w (w7.setRow g0 q5.cells.toArray):=(HK6.out.then HK7.out).trans hkr (fun j hj e=>by have e2:j=g0:=e;have:=HG0.out;omega)
 have hr8:=HR7.out.keep hkr (fun j _ e=>.inr (.inl e))
 have hz8:=(HZ6.out.keep HK7.out (fun f=>f)).keep hkr (fun e=>by have e2:g0+1=g0:=e;omega)
 have hs48:w4.heap.size≤(w7.setRow g0 q5.cells.toArray).heap.size:=Nat.le_trans HS46.out (Nat.le_trans HK7.out.size hkr.size)
 generalize (w7.setRow g0 q5.cells.toArray)=w8 at *
 have hpt:q5.pt=(q.pt.put i x2.pt).evt ⟨3,now,x2.s.cen,x2.s.call,x2.s.ep,0⟩:=by rw [HP7.out,HP5.out]
 have hRl:q5.R.map QA.pt=(q.R.map QA.pt).set i x2.pt:=congrArg XS.L hpt
 have hRn:q5.R.length=q.R.length:=by have:=congrArg List.length hRl;simpa using this
 have hOn:q5.out.length=q.out.length:=by have:=congrArg (fun X=>X.out.length) hpt;simpa [QS.pt,XS.evt,XS.put] using this
 obtain ⟨x5,hx5⟩:=get_some (l:=q5.R) (k:=i) (by omega)
 have hx5p:x5.pt=x2.pt:=by
  have h1:(q5.R.map QA.pt)[i]? = some x5.pt:=by rw [List.getElem?_map,hx5];rfl
  rw [hRl,List.getElem?_set_self (by simpa using hi)] at h1
  injection h1 with h1;exact h1.symm
 have HOF:=hid (offerQ w8 _ (fun j hj=>Nat.lt_of_lt_of_le (HAV2.out w4 (Keep.refl _ _) j hj) hs48) q5 hr8 (by omega) (by omega) now HV.out i x5 hx5 (by rw [hx5p,HXP.out];exact HOK2.out))
 unfold QPost at HOF
 have HPT:=hid hpt
 have HX5:=hid hx5p
 have HM8:=hid hM8
 have HZ8:=hid hz8
 have HK8:=hid hk8
 clear hM8 hkr hk8 hr8 hz8 hs48 hpt hRl hRn hOn hx5 hx5p y0 y3 y4 HM6 HM7 HL6 HZ6 HR7 HEV
 go_wp2_with (first
  | (refine wpList_load_row rfl _ (.tmp 3) rfl g0 rfl _ q5.cells.toArray (0,0) _ HM8.out Tryz.underlying35 rfl (by kernel_rfl) ?_)
  | (go_at_call 109;(with_reducible refine HOF.out.mono ?_);rintro e w9 ⟨q6,rfl,hr9,hp9,hc9,hk9⟩
     have HR9:=hid hr9
     have HP9:=hid hp9
     have HC9:=hid hc9
     have HK9:=hid (HK8.out.then hk9)
     have HZ9:=hid (HZ8.out.keep hk9 (fun f=>f))
     clear hr9 hp9 hc9 hk9)
  | (refine wpList_store_row rfl _ (.tmp 6) (.tmp 53) rfl (g0+1) q6.cells.toArray rfl rfl _ _ HZ9.out (by kernel_rfl) rfl (one_toArray (q_one q6)) ?_))
 have hkr:Keep (fun j=>j=g0+1) w9 (w9.setRow (g0+1) q6.cells.toArray):=Keep.row _ _ _
 refine bodyPost_ret (results_cell_row rfl _ _ _ _ _ _ _ rfl (HZ9.out.row _) Tryz.underlying35 rfl (by kernel_rfl)) rfl ⟨q6,rfl,?_,?_,by rw [HC9.out,HC7.out,HC5.out],HK9.out.trans hkr (fun j hj e=>by have e2:j=g0+1:=e;have:=HG0.out;omega)⟩
 ·exact (HR9.out.keep hkr (fun j _ e=>.inr (.inr (.inl e)))).wide (fun j _ hj=>.inl hj)
 ·rw [HP9.out,HPT.out,HX5.out,HXP.out,HXS.out,HOW.out.1,HOW.out.2,HCA.out,HSE.out]
  have hh:q.pt.hold x.pt.d=(a,b):=by rw [show x.pt.d=(dn:Int) from HD.out];exact XS.hold_at HA.out HB.out
  unfold XS.bind
  rw [hh]
  rfl
def findI (n:Nat) (call:Int):Int:=match idx n call with
 | none=>-1
 | some k=>(k:Int)
set_option maxHeartbeats 8000000 in
set_option maxRecDepth 100000 in
theorem findQ (w:World) (q:QS) (hn:q.R.length≤1000) (call:Int):Calls Tryz.prog 16 #[.agg q.cells.toArray,.int .i64 call] w (fun e w'=>e=.returned (.int .i64 (findI q.R.length call))∧Same w w'):=by
 have hm:=Blk.made w 35 q.cells.toArray
 have hw:Same w (w.alloc (.cells q.cells.toArray 35)):=(Keep.refl _ _).alloc _
 generalize hw1:(w.alloc (.cells q.cells.toArray 35))=w1 at *
 have z15:w1.cell? ⟨w.heap.size,15,none⟩=some (.slice q.LA q.R.length q.lc):=hm.at_ 15
 have HW:=hid hw
 clear hm hw
 cases hi:idx q.R.length call with
 | none =>
   have HF:=hid (show findI q.R.length call = -1 from by unfold findI;rw [hi])
   have h0:=idx_none hi
   clear hi
   by_cases h1:call<1
   ·have d1:decide (call<1)=true:=decide_eq_true h1
    clear h0 h1
    go_enter Tryz.func16,Tryz.ntmps16
    go_upto_region 1 with fail
    try rw [hw1]
    go_wp2_with fail
    go_ret
    exact ⟨by rw [HF.out];rfl,HW.out⟩
   ·have d1:decide (call<1)=false:=decide_eq_false h1
    have d2:decide ((q.R.length:Int)<call)=true:=decide_eq_true (by omega)
    clear h0 h1
    go_enter Tryz.func16,Tryz.ntmps16
    go_upto_region 1 with fail
    try rw [hw1]
    go_wp2_with fail
    go_ret
    exact ⟨by rw [HF.out];rfl,HW.out⟩
 | some k =>
   have HF:=hid (show findI q.R.length call=(k:Int) from by unfold findI;rw [hi])
   obtain ⟨h0,h2⟩:=idx_some hi
   have d1:decide (call<1)=false:=decide_eq_false (by omega)
   have d2:decide ((q.R.length:Int)<call)=false:=decide_eq_false (by omega)
   have hk:call - 1=(k:Int):=by omega
   have HK:=hid hk
   have hc1:1≤call:=by omega
   have hc2:call≤1000:=by omega
   clear hi h0 hk
   go_enter Tryz.func16,Tryz.ntmps16
   go_upto_region 1 with fail
   try rw [hw1]
   go_wp2_with fail
   go_ret
   exact ⟨by rw [HF.out,←HK.out];rfl,HW.out⟩
def AvN (w:World) (Av:Nat→Prop) (W:World):Nat→Prop:=fun j=>Av j∨(w.heap.size≤j∧j<W.heap.size)
theorem AvN.lt {w W:World} {Av:Nat→Prop} (hAv:∀ i,Av i→i<w.heap.size) (hk:w.heap.size≤W.heap.size):∀ i,AvN w Av W i→i<W.heap.size:=fun i h=>h.elim (fun a=>Nat.lt_of_lt_of_le (hAv i a) hk) (fun a=>a.2)
theorem AvN.or {w W:World} {Av:Nat→Prop}:∀ j,AvN w Av W j→Av j∨w.heap.size≤j:=fun _j h=>h.imp id (fun a=>a.1)
theorem QS.line_at {q5:QS} {X:XS} (h:q5.pt=X) {k:Nat} {l:Ln} (hl:X.L[k]? = some l):∃ x5,q5.R[k]? = some x5∧x5.pt=l:=by
 rw [←h] at hl
 have hl:(q5.R.map QA.pt)[k]? = some l:=hl
 rw [List.getElem?_map] at hl
 cases hx:q5.R[k]? with
 | none=>rw [hx] at hl;cases hl
 | some x5=>rw [hx] at hl;injection hl with hl;exact ⟨x5,rfl,hl⟩
end Go.Proofs.YtbjddfiledoaoaaGreat

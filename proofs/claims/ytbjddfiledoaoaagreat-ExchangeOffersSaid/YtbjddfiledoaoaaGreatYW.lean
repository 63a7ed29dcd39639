import Derived.Test.YtbjddfiledoaoaaGreatYV
import Derived.Test.YtbjddfiledoaoaaGreatYH
import Derived.Test.YtbjddfiledoaoaaGreatYJ
namespace Go.Proofs.YtbjddfiledoaoaaGreat
open Go.RowKit
theorem do_end {w w1 w2 w4:World} {T T2:Tags} {p p2:PS} {q q3:QS} {c:CF} {b g:Nat} {S2 S4:Nat→Prop} (J:JJ w T p q c b) (hb:b≤60) (a:AT) (hw:Same w w1) (m2:Mv w1 (T.rsv w.heap.size w1.heap.size) w2 T2 S2) (hS2:∀ i,S2 i→(T.rsv w.heap.size w1.heap.size).on i)
 (hp2:PX w2 T2 p2) (hx:p2.x=p.x) (hpt:p2.pt=actX q.pt a (bodyA a)) (hk4:Keep S4 w2 w4) (hS4:∀ i,S4 i→T2 i=some .rsv) (hW4:∀ i,S4 i→w.heap.size≤i) (hr4:RX w4 (fun i=>T2 i≠none) q3) (hq:q3.pt=actX q.pt a (bodyA a)) (hc:q3.c=c) (h1:w.heap.size≤g) (h2:g<w1.heap.size) :
 DoP w T p.x q.pt c b a (.returned (.tuple #[.agg q3.cells.toArray,.bool true])) (w4.setRow g q3.cells.toArray):=by
 have hg:T2 g=some .rsv:=(m2.old g h2).trans (Tags.rsv_at h1 h2)
 have hkr:Keep (fun j=>j=g) w4 (w4.setRow g q3.cells.toArray):=Keep.row _ _ _
 have hk5:Keep (fun i=>S4 i∨i=g) w2 (w4.setRow g q3.cells.toArray):=(hk4.wide (fun _ _ e=>.inl e)).trans hkr (fun _ _ e=>.inr e)
 have m5:Mv w2 T2 (w4.setRow g q3.cells.toArray) T2 (fun i=>S4 i∨i=g):=Mv.put hp2.lt hk5
 have hS5:∀ i,(S4 i∨i=g)→T2 i=some .rsv:=fun i hi=>hi.elim (hS4 i) (fun e=>by rw [e];exact hg)
 have hN5:∀ i,(S4 i∨i=g)→T2 i≠none:=fun i hi=>by rw [hS5 i hi];exact fun h=>by cases h
 have J1:=J.rsv hw
 have hd:=m5.slice hN5 (m2.slice (fun i hi=>(hS2 i hi).1) J1.dis)
 refine ⟨T2,p2,q3,_,rfl,J.next hb a (bodyA a) (hp2.mvR m5 hS5) (hr4.keep hkr (fun i _ e=>hN5 i (.inr e))) hpt hq hc hd,hx,hq,((Mv.rsv J.px.lt hw).comp (fun _ f=>f.elim) m2 hS2).trans m5 (fun i hi hs=>hs.elim (fun h=>absurd (hW4 i h) (by omega)) (fun e=>absurd e (by omega))),fun i h=>h⟩
set_option maxHeartbeats 8000000 in
set_option maxRecDepth 100000 in
theorem do_ans {w:World} {T:Tags} {p:PS} {q:QS} {c:CF} {b:Nat} (J:JJ w T p q c b) (hb:b≤60) (a:AT) (ha:ATok w (fun i=>T i≠none) a) (hf:fewA a=true) (hk:a.k=1):Calls Tryz.prog 29 #[.pointer (some ⟨p.x,0,none⟩),.agg q.cells.toArray,.agg a.cells.toArray] w (DoP w T p.x q.pt c b a):=by
 have hm:=((Blk.made w 35 q.cells.toArray).alloc (.cells a.cells.toArray 63)).alloc (.cells zero20.toArray 35)
 have he:=(Blk.made (w.alloc (.cells q.cells.toArray 35)) 63 a.cells.toArray).alloc (.cells zero20.toArray 35)
 have hz:=Blk.made ((w.alloc (.cells q.cells.toArray 35)).alloc (.cells a.cells.toArray 63)) 35 zero20.toArray
 have hw:Same w (((w.alloc (.cells q.cells.toArray 35)).alloc (.cells a.cells.toArray 63)).alloc (.cells zero20.toArray 35)):=(((Keep.refl _ _).alloc _).alloc _).alloc _
 rw [World.size_alloc] at he
 rw [World.size_alloc,World.size_alloc] at hz
 generalize hw1:(((w.alloc (.cells q.cells.toArray 35)).alloc (.cells a.cells.toArray 63)).alloc (.cells zero20.toArray 35))=w1 at *
 have hsz:w1.heap.size=w.heap.size+3:=by rw [←hw1];simp only [World.size_alloc]
 have hJ1:=J.rsv hw
 have hT0:(T.rsv w.heap.size w1.heap.size) w.heap.size=some .rsv:=Tags.rsv_at (by omega) (by omega)
 have hT1:(T.rsv w.heap.size w1.heap.size) (w.heap.size+1)=some .rsv:=Tags.rsv_at (by omega) (by omega)
 have hT2:(T.rsv w.heap.size w1.heap.size) (w.heap.size+1+1)=some .rsv:=Tags.rsv_at (by omega) (by omega)
 have HM:=hid hm
 have HE:=hid he
 have HZ:=hid hz
 have HW:=hid hw
 have HJ:=hid J
 have HJ1:=hid hJ1
 have HSZ:=hid hsz
 have HT:=hid (And.intro hT0 (And.intro hT1 hT2))
 have HB:=hid hb
 have HF:=hid hf
 have HA:=hid (ha.step (Mv.rsv J.px.lt hw) (fun _ f=>f.elim))
 have HLN:=hid (And.intro J.lens hJ1.n)
 have h03:w.heap.size<w1.heap.size:=by omega
 have h13:w.heap.size+1<w1.heap.size:=by omega
 have hact:∀ X:XS,actX X a (bodyA a)=X.ansS a.call a.n a.now:=fun X=>by unfold actX;rw [if_neg (by omega)];rw [if_pos hk]
 have HACT:=hid hact
 have hrl:=HLN.out
 have HCX:=hid (answerX HJ1.out.px (fun k x hx=>(HJ1.out.ok.ln k x.pt (by rw [←HJ1.out.eq];exact PS.pt_at hx)).1) (by omega) (by omega) (by rw [hrl.1.2.2];omega) a.call a.n a.now)
 unfold PPost PP at HCX
 have HEQ:=hid J.eq
 have y0:w1.cell? ⟨w.heap.size+1,0,none⟩=some (.int .i64 1):=by rw [←hk];exact he.at_ 0
 have y3:w1.cell? ⟨w.heap.size+1,3,none⟩=some (.int .i64 a.call):=he.at_ 3
 have y4:w1.cell? ⟨w.heap.size+1,4,none⟩=some (.int .i64 a.n):=he.at_ 4
 have y15:w1.cell? ⟨w.heap.size+1,15,none⟩=some (.int .i64 a.now):=he.at_ 15
 have HKK:=hid hk
 clear hk hact hrl
 clear hm he hz hw J hb ha hf hsz hJ1 hT0 hT1 hT2
 go_enter Tryz.func29,Tryz.ntmps29
 go_upto_region 1 with fail
 try simp only [zero20] at hw1
 try rw [hw1]
 clear hw1
 go_upto_region 8 with (first
  | (go_at_call 60
     (with_reducible refine HCX.out.mono ?_)
     rintro e1 w2 ⟨rfl,p2,T2,S2,hx2,_,hpt2,hp2,m2,hS2⟩
     have HX2:=hid hx2
     have HPT2:=hid hpt2
     have HP2:=hid hp2
     have HMV2:=hid m2
     have HS2:=hid hS2
     have HM2:=hid (HM.out.keep m2.keep (fun h=>Tags.rsv_off HT.out.1 (hS2 _ h)))
     have HE2:=hid (HE.out.keep m2.keep (fun h=>Tags.rsv_off HT.out.2.1 (hS2 _ h)))
     have HZ2:=hid (HZ.out.keep m2.keep (fun h=>Tags.rsv_off HT.out.2.2 (hS2 _ h)))
     have HR2:=hid (HJ1.out.rx.step m2 (fun i hs=>(hS2 i hs).1))
     have HLT2:=hid (fun i (h:T2 i≠none)=>hp2.lt i h)
     have y3:w2.cell? ⟨w.heap.size+1,3,none⟩=some (.int .i64 a.call):=HE2.out.at_ 3
     have y4:w2.cell? ⟨w.heap.size+1,4,none⟩=some (.int .i64 a.n):=HE2.out.at_ 4
     have y15:w2.cell? ⟨w.heap.size+1,15,none⟩=some (.int .i64 a.now):=HE2.out.at_ 15
     clear hx2 hpt2 hp2 m2 hS2))
 have HCR:=hid (sayQ w2 _ HLT2.out q HR2.out HJ1.out.ok (by have:=HLN.out;have:=HB.out;omega) (by have:=HLN.out;have:=HB.out;omega) (by have:=HLN.out;have:=HB.out;omega) a.call a.n a.now)
 unfold QEPost at HCR
 rw [HEQ.out]
 go_upto_region 9 with (first
  | (refine wpList_load_row rfl _ (.tmp 4) rfl w.heap.size rfl _ q.cells.toArray (0,0) _ HM2.out Tryz.underlying35 rfl (by kernel_rfl) ?_)
  | (go_at_call 61
     (with_reducible refine HCR.out.mono ?_)
     rintro e3 w3 ⟨q3,rfl,hr3,hp3,hc3,hk3⟩
     have HR3:=hid hr3
     have HP3:=hid hp3
     have HC3:=hid hc3
     have HK3:=hid hk3
     have HZN:=hid (Blk.made w3 35 #[.int .i64 0,.slice none 0 0,.slice none 0 0,.slice none 0 0,.slice none 0 0,.int .i64 0,.int .i64 0,.int .i64 0,.int .i64 0,.int .i64 0,.int .i64 0,.int .i64 0,.int .i64 0,.int .i64 0,.int .i64 0,.slice none 0 0,.slice none 0 0,.slice none 0 0,.slice none 0 0,.slice none 0 0])
     clear hr3 hp3 hc3 hk3)
  | (refine wpList_store_row rfl _ (.tmp 14) (.tmp 78) rfl w3.heap.size q3.cells.toArray rfl rfl _ _ HZN.out (by kernel_rfl) rfl (one_toArray (q_one q3)) ?_))
 have hL4:Blk ((w3.alloc (.cells #[.int .i64 0,.slice none 0 0,.slice none 0 0,.slice none 0 0,.slice none 0 0,.int .i64 0,.int .i64 0,.int .i64 0,.int .i64 0,.int .i64 0,.int .i64 0,.int .i64 0,.int .i64 0,.int .i64 0,.int .i64 0,.slice none 0 0,.slice none 0 0,.slice none 0 0,.slice none 0 0,.slice none 0 0] 35)).setRow w3.heap.size q3.cells.toArray) w3.heap.size 35 q3.cells.toArray:=HZN.out.row _
 have hk4:Same w3 ((w3.alloc (.cells #[.int .i64 0,.slice none 0 0,.slice none 0 0,.slice none 0 0,.slice none 0 0,.int .i64 0,.int .i64 0,.int .i64 0,.int .i64 0,.int .i64 0,.int .i64 0,.int .i64 0,.int .i64 0,.int .i64 0,.int .i64 0,.slice none 0 0,.slice none 0 0,.slice none 0 0,.slice none 0 0,.slice none 0 0] 35)).setRow w3.heap.size q3.cells.toArray):=((Keep.refl (fun _=>False) w3).alloc _).trans (Keep.row _ _ _) (fun j hj e=>by have e2:j=w3.heap.size:=e;omega)
 obtain ⟨gn,hgn⟩:∃ g,g=w3.heap.size:=⟨_,rfl⟩
 rw [←hgn] at hL4 hk4 ⊢
 have HL4:=hid hL4
 have HK4:=hid (HK3.out.then hk4)
 have HR4:=hid (HR3.out.same hk4)
 have HZ4:=hid (HZ2.out.keep (HK3.out.then hk4) (fun f=>f))
 clear hL4 hk4 hgn HZN
 generalize ((w3.alloc (.cells #[.int .i64 0,.slice none 0 0,.slice none 0 0,.slice none 0 0,.slice none 0 0,.int .i64 0,.int .i64 0,.int .i64 0,.int .i64 0,.int .i64 0,.int .i64 0,.int .i64 0,.int .i64 0,.int .i64 0,.int .i64 0,.slice none 0 0,.slice none 0 0,.slice none 0 0,.slice none 0 0,.slice none 0 0] 35)).setRow gn q3.cells.toArray)=w4 at *
 have HD:=hid (do_end HJ.out HB.out a HW.out HMV2.out HS2.out HP2.out HX2.out (by rw [HPT2.out,HEQ.out,HACT.out]) HK4.out (fun _ f=>f.elim) (fun _ f=>f.elim) HR4.out (by rw [HP3.out,HACT.out]) (HC3.out.trans HJ.out.cfg) (show w.heap.size≤w.heap.size+1+1 by omega) (by have:=HSZ.out;omega))
 go_wp2_with (first
  | (refine wpList_load_row rfl _ (.tmp 14) rfl gn rfl _ q3.cells.toArray (0,0) _ HL4.out Tryz.underlying35 rfl (by kernel_rfl) ?_)
  | (refine wpList_store_row rfl _ (.tmp 6) (.tmp 80) rfl (w.heap.size+1+1) q3.cells.toArray rfl rfl _ _ HZ4.out (by kernel_rfl) rfl (one_toArray (q_one q3)) ?_))
 refine bodyPost_ret (results_cell_tmp rfl _ _ _ _ _ _ _ _ rfl rfl (HZ4.out.row _) Tryz.underlying35 rfl (by kernel_rfl)) rfl ?_
 exact HD.out
set_option maxHeartbeats 8000000 in
set_option maxRecDepth 100000 in
theorem do_hang {w:World} {T:Tags} {p:PS} {q:QS} {c:CF} {b:Nat} (J:JJ w T p q c b) (hb:b≤60) (a:AT) (ha:ATok w (fun i=>T i≠none) a) (hf:fewA a=true) (hk:a.k=2):Calls Tryz.prog 29 #[.pointer (some ⟨p.x,0,none⟩),.agg q.cells.toArray,.agg a.cells.toArray] w (DoP w T p.x q.pt c b a):=by
 have hm:=((Blk.made w 35 q.cells.toArray).alloc (.cells a.cells.toArray 63)).alloc (.cells zero20.toArray 35)
 have he:=(Blk.made (w.alloc (.cells q.cells.toArray 35)) 63 a.cells.toArray).alloc (.cells zero20.toArray 35)
 have hz:=Blk.made ((w.alloc (.cells q.cells.toArray 35)).alloc (.cells a.cells.toArray 63)) 35 zero20.toArray
 have hw:Same w (((w.alloc (.cells q.cells.toArray 35)).alloc (.cells a.cells.toArray 63)).alloc (.cells zero20.toArray 35)):=(((Keep.refl _ _).alloc _).alloc _).alloc _
 rw [World.size_alloc] at he
 rw [World.size_alloc,World.size_alloc] at hz
 generalize hw1:(((w.alloc (.cells q.cells.toArray 35)).alloc (.cells a.cells.toArray 63)).alloc (.cells zero20.toArray 35))=w1 at *
 have hsz:w1.heap.size=w.heap.size+3:=by rw [←hw1];simp only [World.size_alloc]
 have hJ1:=J.rsv hw
 have hT0:(T.rsv w.heap.size w1.heap.size) w.heap.size=some .rsv:=Tags.rsv_at (by omega) (by omega)
 have hT1:(T.rsv w.heap.size w1.heap.size) (w.heap.size+1)=some .rsv:=Tags.rsv_at (by omega) (by omega)
 have hT2:(T.rsv w.heap.size w1.heap.size) (w.heap.size+1+1)=some .rsv:=Tags.rsv_at (by omega) (by omega)
 have HM:=hid hm
 have HE:=hid he
 have HZ:=hid hz
 have HW:=hid hw
 have HJ:=hid J
 have HJ1:=hid hJ1
 have HSZ:=hid hsz
 have HT:=hid (And.intro hT0 (And.intro hT1 hT2))
 have HB:=hid hb
 have HF:=hid hf
 have HA:=hid (ha.step (Mv.rsv J.px.lt hw) (fun _ f=>f.elim))
 have HLN:=hid (And.intro J.lens hJ1.n)
 have h03:w.heap.size<w1.heap.size:=by omega
 have h13:w.heap.size+1<w1.heap.size:=by omega
 have hact:∀ X:XS,actX X a (bodyA a)=X.hangS a.call a.now:=fun X=>by unfold actX;rw [if_neg (by omega)];rw [if_neg (by omega)];rw [if_pos hk]
 have HACT:=hid hact
 have hrl:=HLN.out
 have HCX:=hid (hangX HJ1.out.px (fun k x hx=>(HJ1.out.ok.ln k x.pt (by rw [←HJ1.out.eq];exact PS.pt_at hx)).1) (by omega) (by omega) (by rw [hrl.1.2.2];omega) a.call a.now)
 unfold PPost PP at HCX
 have HEQ:=hid J.eq
 have y0:w1.cell? ⟨w.heap.size+1,0,none⟩=some (.int .i64 2):=by rw [←hk];exact he.at_ 0
 have y3:w1.cell? ⟨w.heap.size+1,3,none⟩=some (.int .i64 a.call):=he.at_ 3
 have y15:w1.cell? ⟨w.heap.size+1,15,none⟩=some (.int .i64 a.now):=he.at_ 15
 have HKK:=hid hk
 clear hk hact hrl
 clear hm he hz hw J hb ha hf hsz hJ1 hT0 hT1 hT2
 go_enter Tryz.func29,Tryz.ntmps29
 go_upto_region 1 with fail
 try simp only [zero20] at hw1
 try rw [hw1]
 clear hw1
 go_upto_region 12 with (first
  | (go_at_call 62
     (with_reducible refine HCX.out.mono ?_)
     rintro e1 w2 ⟨rfl,p2,T2,S2,hx2,_,hpt2,hp2,m2,hS2⟩
     have HX2:=hid hx2
     have HPT2:=hid hpt2
     have HP2:=hid hp2
     have HMV2:=hid m2
     have HS2:=hid hS2
     have HM2:=hid (HM.out.keep m2.keep (fun h=>Tags.rsv_off HT.out.1 (hS2 _ h)))
     have HE2:=hid (HE.out.keep m2.keep (fun h=>Tags.rsv_off HT.out.2.1 (hS2 _ h)))
     have HZ2:=hid (HZ.out.keep m2.keep (fun h=>Tags.rsv_off HT.out.2.2 (hS2 _ h)))
     have HR2:=hid (HJ1.out.rx.step m2 (fun i hs=>(hS2 i hs).1))
     have HLT2:=hid (fun i (h:T2 i≠none)=>hp2.lt i h)
     have y3:w2.cell? ⟨w.heap.size+1,3,none⟩=some (.int .i64 a.call):=HE2.out.at_ 3
     have y15:w2.cell? ⟨w.heap.size+1,15,none⟩=some (.int .i64 a.now):=HE2.out.at_ 15
     clear hx2 hpt2 hp2 m2 hS2))
 have HCR:=hid (hangQ w2 _ HLT2.out q HR2.out HJ1.out.ok (by have:=HLN.out;have:=HB.out;omega) (by have:=HLN.out;have:=HB.out;omega) (by have:=HLN.out;have:=HB.out;omega) a.call a.now)
 unfold QEPost at HCR
 rw [HEQ.out]
 go_upto_region 13 with (first
  | (refine wpList_load_row rfl _ (.tmp 4) rfl w.heap.size rfl _ q.cells.toArray (0,0) _ HM2.out Tryz.underlying35 rfl (by kernel_rfl) ?_)
  | (go_at_call 63
     (with_reducible refine HCR.out.mono ?_)
     rintro e3 w3 ⟨q3,rfl,hr3,hp3,hc3,hk3⟩
     have HR3:=hid hr3
     have HP3:=hid hp3
     have HC3:=hid hc3
     have HK3:=hid hk3
     have HZN:=hid (Blk.made w3 35 #[.int .i64 0,.slice none 0 0,.slice none 0 0,.slice none 0 0,.slice none 0 0,.int .i64 0,.int .i64 0,.int .i64 0,.int .i64 0,.int .i64 0,.int .i64 0,.int .i64 0,.int .i64 0,.int .i64 0,.int .i64 0,.slice none 0 0,.slice none 0 0,.slice none 0 0,.slice none 0 0,.slice none 0 0])
     clear hr3 hp3 hc3 hk3)
  | (refine wpList_store_row rfl _ (.tmp 17) (.tmp 99) rfl w3.heap.size q3.cells.toArray rfl rfl _ _ HZN.out (by kernel_rfl) rfl (one_toArray (q_one q3)) ?_))
 have hL4:Blk ((w3.alloc (.cells #[.int .i64 0,.slice none 0 0,.slice none 0 0,.slice none 0 0,.slice none 0 0,.int .i64 0,.int .i64 0,.int .i64 0,.int .i64 0,.int .i64 0,.int .i64 0,.int .i64 0,.int .i64 0,.int .i64 0,.int .i64 0,.slice none 0 0,.slice none 0 0,.slice none 0 0,.slice none 0 0,.slice none 0 0] 35)).setRow w3.heap.size q3.cells.toArray) w3.heap.size 35 q3.cells.toArray:=HZN.out.row _
 have hk4:Same w3 ((w3.alloc (.cells #[.int .i64 0,.slice none 0 0,.slice none 0 0,.slice none 0 0,.slice none 0 0,.int .i64 0,.int .i64 0,.int .i64 0,.int .i64 0,.int .i64 0,.int .i64 0,.int .i64 0,.int .i64 0,.int .i64 0,.int .i64 0,.slice none 0 0,.slice none 0 0,.slice none 0 0,.slice none 0 0,.slice none 0 0] 35)).setRow w3.heap.size q3.cells.toArray):=((Keep.refl (fun _=>False) w3).alloc _).trans (Keep.row _ _ _) (fun j hj e=>by have e2:j=w3.heap.size:=e;omega)
 obtain ⟨gn,hgn⟩:∃ g,g=w3.heap.size:=⟨_,rfl⟩
 rw [←hgn] at hL4 hk4 ⊢
 have HL4:=hid hL4
 have HK4:=hid (HK3.out.then hk4)
 have HR4:=hid (HR3.out.same hk4)
 have HZ4:=hid (HZ2.out.keep (HK3.out.then hk4) (fun f=>f))
 clear hL4 hk4 hgn HZN
 generalize ((w3.alloc (.cells #[.int .i64 0,.slice none 0 0,.slice none 0 0,.slice none 0 0,.slice none 0 0,.int .i64 0,.int .i64 0,.int .i64 0,.int .i64 0,.int .i64 0,.int .i64 0,.int .i64 0,.int .i64 0,.int .i64 0,.int .i64 0,.slice none 0 0,.slice none 0 0,.slice none 0 0,.slice none 0 0,.slice none 0 0] 35)).setRow gn q3.cells.toArray)=w4 at *
 have HD:=hid (do_end HJ.out HB.out a HW.out HMV2.out HS2.out HP2.out HX2.out (by rw [HPT2.out,HEQ.out,HACT.out]) HK4.out (fun _ f=>f.elim) (fun _ f=>f.elim) HR4.out (by rw [HP3.out,HACT.out]) (HC3.out.trans HJ.out.cfg) (show w.heap.size≤w.heap.size+1+1 by omega) (by have:=HSZ.out;omega))
 go_wp2_with (first
  | (refine wpList_load_row rfl _ (.tmp 17) rfl gn rfl _ q3.cells.toArray (0,0) _ HL4.out Tryz.underlying35 rfl (by kernel_rfl) ?_)
  | (refine wpList_store_row rfl _ (.tmp 6) (.tmp 101) rfl (w.heap.size+1+1) q3.cells.toArray rfl rfl _ _ HZ4.out (by kernel_rfl) rfl (one_toArray (q_one q3)) ?_))
 refine bodyPost_ret (results_cell_tmp rfl _ _ _ _ _ _ _ _ rfl rfl (HZ4.out.row _) Tryz.underlying35 rfl (by kernel_rfl)) rfl ?_
 exact HD.out
set_option maxHeartbeats 8000000 in
set_option maxRecDepth 100000 in
theorem do_tick {w:World} {T:Tags} {p:PS} {q:QS} {c:CF} {b:Nat} (J:JJ w T p q c b) (hb:b≤60) (a:AT) (ha:ATok w (fun i=>T i≠none) a) (hf:fewA a=true) (hk:a.k=4):Calls Tryz.prog 29 #[.pointer (some ⟨p.x,0,none⟩),.agg q.cells.toArray,.agg a.cells.toArray] w (DoP w T p.x q.pt c b a):=by
 have hm:=((Blk.made w 35 q.cells.toArray).alloc (.cells a.cells.toArray 63)).alloc (.cells zero20.toArray 35)
 have he:=(Blk.made (w.alloc (.cells q.cells.toArray 35)) 63 a.cells.toArray).alloc (.cells zero20.toArray 35)
 have hz:=Blk.made ((w.alloc (.cells q.cells.toArray 35)).alloc (.cells a.cells.toArray 63)) 35 zero20.toArray
 have hw:Same w (((w.alloc (.cells q.cells.toArray 35)).alloc (.cells a.cells.toArray 63)).alloc (.cells zero20.toArray 35)):=(((Keep.refl _ _).alloc _).alloc _).alloc _
 rw [World.size_alloc] at he
 rw [World.size_alloc,World.size_alloc] at hz
 generalize hw1:(((w.alloc (.cells q.cells.toArray 35)).alloc (.cells a.cells.toArray 63)).alloc (.cells zero20.toArray 35))=w1 at *
 have hsz:w1.heap.size=w.heap.size+3:=by rw [←hw1];simp only [World.size_alloc]
 have hJ1:=J.rsv hw
 have hT0:(T.rsv w.heap.size w1.heap.size) w.heap.size=some .rsv:=Tags.rsv_at (by omega) (by omega)
 have hT1:(T.rsv w.heap.size w1.heap.size) (w.heap.size+1)=some .rsv:=Tags.rsv_at (by omega) (by omega)
 have hT2:(T.rsv w.heap.size w1.heap.size) (w.heap.size+1+1)=some .rsv:=Tags.rsv_at (by omega) (by omega)
 have HM:=hid hm
 have HE:=hid he
 have HZ:=hid hz
 have HW:=hid hw
 have HJ:=hid J
 have HJ1:=hid hJ1
 have HSZ:=hid hsz
 have HT:=hid (And.intro hT0 (And.intro hT1 hT2))
 have HB:=hid hb
 have HF:=hid hf
 have HA:=hid (ha.step (Mv.rsv J.px.lt hw) (fun _ f=>f.elim))
 have HLN:=hid (And.intro J.lens hJ1.n)
 have h03:w.heap.size<w1.heap.size:=by omega
 have h13:w.heap.size+1<w1.heap.size:=by omega
 have hact:∀ X:XS,actX X a (bodyA a)=X.tick a.now:=fun X=>by unfold actX;rw [if_neg (by omega)];rw [if_neg (by omega)];rw [if_neg (by omega)];rw [if_neg (by omega)];rw [if_pos hk]
 have HACT:=hid hact
 have hrl:=HLN.out
 have HEQ:=hid J.eq
 have HCX:=hid (tickX HJ1.out.px (by rw [HJ1.out.eq];exact HJ1.out.ok) (by omega) (by omega) (by rw [hrl.1.2.2];omega) a.now)
 unfold PPost PP at HCX
 have y0:w1.cell? ⟨w.heap.size+1,0,none⟩=some (.int .i64 4):=by rw [←hk];exact he.at_ 0
 have y15:w1.cell? ⟨w.heap.size+1,15,none⟩=some (.int .i64 a.now):=he.at_ 15
 have HKK:=hid hk
 clear hk hact hrl
 clear hm he hz hw J hb ha hf hsz hJ1 hT0 hT1 hT2
 go_enter Tryz.func29,Tryz.ntmps29
 go_upto_region 1 with fail
 try simp only [zero20] at hw1
 try rw [hw1]
 clear hw1
 go_upto_region 21 with (first
  | (go_at_call 22
     (with_reducible refine HCX.out.mono ?_)
     rintro e1 w2 ⟨rfl,p2,T2,S2,hx2,_,hpt2,hp2,m2,hS2⟩
     have HX2:=hid hx2
     have HPT2:=hid hpt2
     have HP2:=hid hp2
     have HMV2:=hid m2
     have HS2:=hid hS2
     have HM2:=hid (HM.out.keep m2.keep (fun h=>Tags.rsv_off HT.out.1 (hS2 _ h)))
     have HE2:=hid (HE.out.keep m2.keep (fun h=>Tags.rsv_off HT.out.2.1 (hS2 _ h)))
     have HZ2:=hid (HZ.out.keep m2.keep (fun h=>Tags.rsv_off HT.out.2.2 (hS2 _ h)))
     have HR2:=hid (HJ1.out.rx.step m2 (fun i hs=>(hS2 i hs).1))
     have HLT2:=hid (fun i (h:T2 i≠none)=>hp2.lt i h)
     have y15:w2.cell? ⟨w.heap.size+1,15,none⟩=some (.int .i64 a.now):=HE2.out.at_ 15
     clear hx2 hpt2 hp2 m2 hS2))
 have HCR:=hid (tickQ w2 _ HLT2.out q HR2.out HJ1.out.ok (by have:=HLN.out;have:=HB.out;omega) (by have:=HLN.out;have:=HB.out;omega) a.now)
 unfold QPost at HCR
 go_upto_region 26 with (first
  | (refine wpList_load_row rfl _ (.tmp 4) rfl w.heap.size rfl _ q.cells.toArray (0,0) _ HM2.out Tryz.underlying35 rfl (by kernel_rfl) ?_)
  | (go_at_call 66
     (with_reducible refine HCR.out.mono ?_)
     rintro e3 w3 ⟨q3,rfl,hr3,hp3,hc3,hk3⟩
     have HR3:=hid hr3
     have HP3:=hid hp3
     have HC3:=hid hc3
     have HK3:=hid hk3
     have HM3:=hid (HM2.out.keep hk3 (fun f=>f))
     clear hr3 hp3 hc3 hk3)
  | (refine wpList_store_row rfl _ (.tmp 4) (.tmp 136) rfl w.heap.size q3.cells.toArray rfl rfl _ _ HM3.out (by kernel_rfl) rfl (one_toArray (q_one q3)) ?_))
 have hkr:Keep (fun j=>j=w.heap.size) w3 (w3.setRow w.heap.size q3.cells.toArray):=Keep.row _ _ _
 have hT20:T2 w.heap.size=some .rsv:=(HMV2.out.old _ h03).trans HT.out.1
 have HM4:=hid (HM3.out.row q3.cells.toArray)
 have HZ4:=hid ((HZ2.out.keep HK3.out (fun f=>f)).keep hkr (fun e=>by have e2:w.heap.size+1+1=w.heap.size:=e;omega))
 have HK4:=hid ((HK3.out.wide (T:=fun j=>j=w.heap.size) (fun _ _ f=>f.elim)).trans hkr (fun _ _ e=>e))
 have HR4:=hid (HR3.out.keep hkr (fun j _ e=>by have e2:j=w.heap.size:=e;rw [e2,hT20];exact fun h=>by cases h))
 have HT20:=hid hT20
 clear hkr hT20
 generalize (w3.setRow w.heap.size q3.cells.toArray)=w4 at *
 have HD:=hid (do_end HJ.out HB.out a HW.out HMV2.out HS2.out HP2.out HX2.out (by rw [HPT2.out,HEQ.out,HACT.out]) HK4.out (fun i e=>by have e2:i=w.heap.size:=e;rw [e2];exact HT20.out) (fun i e=>Nat.le_of_eq (show i=w.heap.size from e).symm) HR4.out (by rw [HP3.out,HACT.out]) (HC3.out.trans HJ.out.cfg) (show w.heap.size≤w.heap.size+1+1 by omega) (by have:=HSZ.out;omega))
 go_wp2_with (first
  | (refine wpList_load_row rfl _ (.tmp 4) rfl w.heap.size rfl _ q3.cells.toArray (0,0) _ HM4.out Tryz.underlying35 rfl (by kernel_rfl) ?_)
  | (refine wpList_store_row rfl _ (.tmp 6) (.tmp 155) rfl (w.heap.size+1+1) q3.cells.toArray rfl rfl _ _ HZ4.out (by kernel_rfl) rfl (one_toArray (q_one q3)) ?_))
 refine bodyPost_ret (results_cell_tmp rfl _ _ _ _ _ _ _ _ rfl rfl (HZ4.out.row _) Tryz.underlying35 rfl (by kernel_rfl)) rfl ?_
 exact HD.out
set_option maxHeartbeats 8000000 in
set_option maxRecDepth 100000 in
theorem do_none {w:World} {T:Tags} {p:PS} {q:QS} {c:CF} {b:Nat} (J:JJ w T p q c b) (hb:b≤60) (a:AT) (ha:ATok w (fun i=>T i≠none) a) (hf:fewA a=true) (h0:a.k≠0) (h1:a.k≠1) (h2:a.k≠2) (h3:a.k≠3) (h4:a.k≠4) (h5:a.k≠5):Calls Tryz.prog 29 #[.pointer (some ⟨p.x,0,none⟩),.agg q.cells.toArray,.agg a.cells.toArray] w (DoP w T p.x q.pt c b a):=by
 have hm:=((Blk.made w 35 q.cells.toArray).alloc (.cells a.cells.toArray 63)).alloc (.cells zero20.toArray 35)
 have he:=(Blk.made (w.alloc (.cells q.cells.toArray 35)) 63 a.cells.toArray).alloc (.cells zero20.toArray 35)
 have hz:=Blk.made ((w.alloc (.cells q.cells.toArray 35)).alloc (.cells a.cells.toArray 63)) 35 zero20.toArray
 have hw:Same w (((w.alloc (.cells q.cells.toArray 35)).alloc (.cells a.cells.toArray 63)).alloc (.cells zero20.toArray 35)):=(((Keep.refl _ _).alloc _).alloc _).alloc _
 rw [World.size_alloc] at he
 rw [World.size_alloc,World.size_alloc] at hz
 generalize hw1:(((w.alloc (.cells q.cells.toArray 35)).alloc (.cells a.cells.toArray 63)).alloc (.cells zero20.toArray 35))=w1 at *
 have hsz:w1.heap.size=w.heap.size+3:=by rw [←hw1];simp only [World.size_alloc]
 have hJ1:=J.rsv hw
 have hT0:(T.rsv w.heap.size w1.heap.size) w.heap.size=some .rsv:=Tags.rsv_at (by omega) (by omega)
 have hT1:(T.rsv w.heap.size w1.heap.size) (w.heap.size+1)=some .rsv:=Tags.rsv_at (by omega) (by omega)
 have hT2:(T.rsv w.heap.size w1.heap.size) (w.heap.size+1+1)=some .rsv:=Tags.rsv_at (by omega) (by omega)
 have HM:=hid hm
 have HE:=hid he
 have HZ:=hid hz
 have HW:=hid hw
 have HJ:=hid J
 have HJ1:=hid hJ1
 have HSZ:=hid hsz
 have HT:=hid (And.intro hT0 (And.intro hT1 hT2))
 have HB:=hid hb
 have HF:=hid hf
 have HA:=hid (ha.step (Mv.rsv J.px.lt hw) (fun _ f=>f.elim))
 have HLN:=hid (And.intro J.lens hJ1.n)
 have h03:w.heap.size<w1.heap.size:=by omega
 have h13:w.heap.size+1<w1.heap.size:=by omega
 have hact:∀ X:XS,actX X a (bodyA a)=X:=fun X=>by unfold actX;rw [if_neg h0,if_neg h1,if_neg h2,if_neg h3,if_neg h4,if_neg h5]
 have HD:=hid (do_end J hb a hw (Mv.same (Keep.refl _ w1) hJ1.px.lt) (fun _ f=>f.elim) hJ1.px rfl (by rw [hact,J.eq]) (Keep.refl (fun _=>False) w1) (fun _ f=>f.elim) (fun _ f=>f.elim) hJ1.rx (by rw [hact]) J.cfg (show w.heap.size≤w.heap.size+1+1 by omega) (by omega))
 have d0:(a.k == 0)=false:=by simpa using h0
 have d1:(a.k == 1)=false:=by simpa using h1
 have d2:(a.k == 2)=false:=by simpa using h2
 have d3:(a.k == 3)=false:=by simpa using h3
 have d4:(a.k == 4)=false:=by simpa using h4
 have d5:(a.k == 5)=false:=by simpa using h5
 have y0:w1.cell? ⟨w.heap.size+1,0,none⟩=some (.int .i64 a.k):=he.at_ 0
 clear h0 h1 h2 h3 h4 h5 hact
 clear hm he hz hw J hb ha hf hsz hJ1 hT0 hT1 hT2
 go_enter Tryz.func29,Tryz.ntmps29
 go_upto_region 1 with fail
 try simp only [zero20] at hw1
 try rw [hw1]
 clear hw1
 go_wp2_with (first
  | (refine wpList_load_row rfl _ (.tmp 4) rfl w.heap.size rfl _ q.cells.toArray (0,0) _ HM.out Tryz.underlying35 rfl (by kernel_rfl) ?_)
  | (refine wpList_store_row rfl _ (.tmp 6) (.tmp 155) rfl (w.heap.size+1+1) q.cells.toArray rfl rfl _ _ HZ.out (by kernel_rfl) rfl (one_toArray (q_one q)) ?_))
 refine bodyPost_ret (results_cell_tmp rfl _ _ _ _ _ _ _ _ rfl rfl (HZ.out.row _) Tryz.underlying35 rfl (by kernel_rfl)) rfl ?_
 exact HD.out
end Go.Proofs.YtbjddfiledoaoaaGreat

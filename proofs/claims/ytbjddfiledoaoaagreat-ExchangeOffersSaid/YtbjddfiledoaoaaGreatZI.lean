import Derived.Test.YtbjddfiledoaoaaGreatZR
import Derived.Test.YtbjddfiledoaoaaGreatYL
namespace Go.Proofs.YtbjddfiledoaoaaGreat
open Go.RowKit
theorem tMw {P:Program} {md:Region.Mode} {ops:Array Oper} {Q:Exit→Act→World→Prop} {S:World→Prop} {oi:Oper} {fuel:Nat} {listed listed2:Array Bool} {a b:Act} {w:World} (i:Nat) (x:Operand) (g o:Nat) (cs:List Value) (hh:∀ W,S W→W.rangeAt g o cs) {ty:TypeId} {d:TypeDesc} (hu:P.underlying ty=some d)
 (h:wpAnyH P md ops Q S fuel listed2 b w) (hs:Region.noSelect ops=true:=by kernel_rfl) (hf:Region.free md ops listed i=true:=by kernel_rfl) (hr:(Region.ready md ops listed).contains i=true:=by kernel_rfl) (hQ:∀ c a d v w,Q (.panic c) (Act.put a d v) w→Q (.panic c) a w:=by (intro c a d v w h;cases d <;> exact h))
 (hi:ops[i]? = some oi:=by (simp only [List.getElem?_toArray,List.getElem?_cons_succ,List.getElem?_cons_zero];rfl))
 (hwn:Region.wanted oi (yielded ops a.tmps)=true:=by rfl) (ho:oi.op=.load ty x:=by rfl) (hx:a.eval x=.pointer (some ⟨g,o,none⟩):=by rfl) (hd:d.isRow=true:=by rfl) (hz:(P.info? ty).map (·.size)=some cs.length:=by kernel_rfl)
 (hS:S w:=by assumption) (hb:a.put oi.dst (.agg cs.toArray)=b:=by ((try simp only [Act.put,List.setIfInBounds_toArray,List.set_cons_zero,List.set_cons_succ]);try rfl)) (hl:listed.setIfInBounds i true=listed2:=by ((try simp only [Act.put,List.setIfInBounds_toArray,List.set_cons_zero,List.set_cons_succ]);try rfl)):wpAnyH P md ops Q S (fuel+1) listed a w:=by
 subst hb hl
 exact wpAnyH_take hi hs hf hr (fun c a w h=>hQ c a _ _ w h) (yieldsIf_load_mid hwn ty x ho g o hx cs d hh hu hd hz) hS h
theorem range_pk {w:World} {b off:Nat} {R:List PkA} (h:Row w b off (R.flatMap PkA.cells)) {i:Nat} {x:PkA} (hx:R[i]? = some x):w.rangeAt b (off+i * 3) x.cells:=by
 intro j v hv
 have hj:j<3:=(List.getElem?_eq_some_iff.1 hv).1
 have h1:=h (i * 3+j) v (by
  have:=flat_get PkA.cells 3 (fun _=>rfl) R i j hj
  rw [hx] at this
  rw [this];exact hv)
 rw [Nat.add_assoc];exact h1
theorem zeroBo (w:World):(zeroValue 4).run Tryz.prog w=.ok (.bool false) w:=by kernel_rfl
structure TS (w wr:World) (gy:Nat) (q:QS) (c:CF) (x0:Nat) (X:XS):Prop where
 ex:∃ (T:Tags) (p:PS),p.x=x0∧p.pt=X∧PX wr T p∧RX wr (fun i=>T i≠none) q∧(∀ i,T i≠none→w.heap.size<i)∧T gy=none
 ok:XOk X
 y:Blk wr gy 35 q.cells.toArray
 m:Blk wr w.heap.size 27 c.cells.toArray
 same:Same w wr
theorem TS.keep {w wr W:World} {gy:Nat} {q:QS} {c:CF} {x0:Nat} {X:XS} (h:TS w wr gy q c x0 X) (hk:Same wr W):TS w W gy q c x0 X:=by
 obtain ⟨T,p,h1,h2,h3,h4,h5,h6⟩:=h.ex
 exact ⟨⟨T,p,h1,h2,h3.same hk,h4.same hk,h5,h6⟩,h.ok,h.y.keep hk (fun f=>f),h.m.keep hk (fun f=>f),h.same.then hk⟩
theorem TS.tick {w wr:World} {gy:Nat} {q:QS} {c:CF} {x0:Nat} {X:XS} (h:TS w wr gy q c x0 X) (hl:X.L.length≤1000) (ho:X.out.length≤900000) (he:X.ev.length≤900000) (now:Int) :
 Calls Tryz.prog 22 #[.pointer (some ⟨x0,0,none⟩),.int .i64 now] wr (fun e w'=>e=.returned (.tuple #[])∧TS w w' gy q c x0 (X.tick now)):=by
 obtain ⟨T,p,h1,h2,h3,h4,h5,h6⟩:=h.ex
 have hlen:p.R.length=X.L.length∧p.out.length=X.out.length∧p.ev=X.ev:=by rw [←h2];simp [PS.pt]
 have hc:=tickX h3 (by rw [h2];exact h.ok) (by omega) (by omega) (by rw [hlen.2.2];exact he) now
 rw [h2,h1] at hc
 refine hc.mono (fun e w' hh=>?_)
 obtain ⟨he,p',T',S,k1,_,k3,k4,k5,k6⟩:=hh
 have hm:=h.m.lt
 refine ⟨he,⟨T',p',k1,k3,k4,h4.step k5 (fun i hi=>(k6 i hi).1),fun i hi=>?_,?_⟩,h.ok.tick,h.y.keep k5.keep (fun hs=>(k6 _ hs).1 h6),h.m.keep k5.keep (fun hs=>?_),h.same.trans k5.keep (fun i hi hs=>?_)⟩
 ·rcases k5.new i hi with e | e
  ·exact h5 i e
  ·omega
 ·rw [k5.old gy h.y.lt];exact h6
 ·have:=h5 _ (k6 _ hs).1;omega
 ·have:=h5 _ (k6 _ hs).1;omega
set_option maxHeartbeats 8000000 in
set_option maxRecDepth 100000 in
theorem offers_walk (w:World) (c:CF) (hmm:CM w c) (hff:Few c) (B:Option Addr) (cb:Nat) (l:List AT) (hl:ATs w (fun _=>False) B l) (hn:l.length≤maxLen):Calls Tryz.prog 5 #[.agg c.cells.toArray,.slice B l.length cb] w (fun e w'=>e=.returned (.bool true)∧Same w w'):=by
 have hm:=Blk.made w 27 c.cells.toArray
 have hw:Same w (w.alloc (.cells c.cells.toArray 27)):=(Keep.refl _ _).alloc _
 generalize hw1:(w.alloc (.cells c.cells.toArray 27))=w1 at *
 have HPL:=hid (playedU w1 c (hmm.same hw) hff B cb l (hl.same hw) hn)
 unfold PlU at HPL
 have HAW:=hid awakeQ
 have HM:=hid hm
 have HW:=hid hw
 have HAT:=hid (hl.same hw)
 have HNL:=hid hn
 have HSZ:=hid (show w1.heap.size=w.heap.size+1 from by rw [←hw1];exact World.size_alloc _ _)
 clear hm hmm hff hl hn hw
 go_enter Tryz.func5,Tryz.ntmps5
 go_upto_region 1 with fail
 try rw [hw1]
 clear hw1
 go_upto_region 2 with (first
  | (refine wpList_load_row rfl _ (.tmp 2) rfl w.heap.size rfl _ c.cells.toArray (0,0) _ HM.out Tryz.underlying27 rfl (by kernel_rfl) ?_)
  | (go_at_call 9
     (with_reducible refine HPL.out.mono ?_)
     rintro e w2 ⟨P,q,rfl,hk2,hc2⟩
     have HK2:=hid hk2
     have HC2:=hid hc2
     have HZN:=hid (Blk.made w2 35 #[.int .i64 0,.slice none 0 0,.slice none 0 0,.slice none 0 0,.slice none 0 0,.int .i64 0,.int .i64 0,.int .i64 0,.int .i64 0,.int .i64 0,.int .i64 0,.int .i64 0,.int .i64 0,.int .i64 0,.int .i64 0,.slice none 0 0,.slice none 0 0,.slice none 0 0,.slice none 0 0,.slice none 0 0])
     clear hk2 hc2)
  | (refine wpList_store_row rfl _ (.tmp 6) (.tmp 25) rfl w2.heap.size q.cells.toArray rfl rfl _ _ HZN.out (by kernel_rfl) rfl (one_toArray (q_one q)) ?_))
 have hL3:Blk ((w2.alloc (.cells #[.int .i64 0,.slice none 0 0,.slice none 0 0,.slice none 0 0,.slice none 0 0,.int .i64 0,.int .i64 0,.int .i64 0,.int .i64 0,.int .i64 0,.int .i64 0,.int .i64 0,.int .i64 0,.int .i64 0,.int .i64 0,.slice none 0 0,.slice none 0 0,.slice none 0 0,.slice none 0 0,.slice none 0 0] 35)).setRow w2.heap.size q.cells.toArray) w2.heap.size 35 q.cells.toArray:=HZN.out.row _
 have hk3:Same w2 ((w2.alloc (.cells #[.int .i64 0,.slice none 0 0,.slice none 0 0,.slice none 0 0,.slice none 0 0,.int .i64 0,.int .i64 0,.int .i64 0,.int .i64 0,.int .i64 0,.int .i64 0,.int .i64 0,.int .i64 0,.int .i64 0,.int .i64 0,.slice none 0 0,.slice none 0 0,.slice none 0 0,.slice none 0 0,.slice none 0 0] 35)).setRow w2.heap.size q.cells.toArray):=((Keep.refl (fun _=>False) w2).alloc _).trans (Keep.row _ _ _) (fun j hj e=>by have e2:j=w2.heap.size:=e;omega)
 obtain ⟨gy,hgy⟩:∃ g,g=w2.heap.size:=⟨_,rfl⟩
 rw [←hgy] at hL3 hk3 ⊢
 have HL:=hid hL3
 have HK3:=hid hk3
 have HGY:=hid hgy
 clear hL3 hk3 hgy HZN HPL
 generalize ((w2.alloc (.cells #[.int .i64 0,.slice none 0 0,.slice none 0 0,.slice none 0 0,.slice none 0 0,.int .i64 0,.int .i64 0,.int .i64 0,.int .i64 0,.int .i64 0,.int .i64 0,.int .i64 0,.int .i64 0,.int .i64 0,.int .i64 0,.slice none 0 0,.slice none 0 0,.slice none 0 0,.slice none 0 0,.slice none 0 0] 35)).setRow gy q.cells.toArray)=w3 at *
 have hc2:=HC2.out
 clear HC2
 rcases hc2 with rfl | ⟨T,p,rfl,hj,hq,hnew,h40,hv,hfw⟩
 ·go_wp2_with (go_at_call 10;(with_reducible refine (HAW.out _).mono ?_);rintro e w4 ⟨rfl,hk4⟩;have HK4:=hid hk4;clear hk4)
  go_ret
  exact ⟨rfl,(((HW.out.then HK2.out).then HK3.out).then HK4.out)⟩
 ·have HJ:=hid (hj.same HK3.out)
  have HRT:=hid (run_rt hv h40)
  have HQ:=hid hq
  have HV:=hid (And.intro hv h40)
  have HMc:=hid (HM.out.keep (HK2.out.then HK3.out) (fun f=>f))
  have HTN:=hid (fun i (hi:T i≠none)=>And.intro (hnew i hi) (hj.px.lt i hi))
  have HW3:=hid ((HW.out.then HK2.out).then HK3.out)
  have HTG:=hid (show T gy=none from by
   cases ht:T gy with
   | none=>rfl
   | some t =>
     have h1:=(HTN.out gy (by rw [ht];exact fun h=>by cases h)).2
     have h2:=HGY.out
     omega)
  have y10:w3.cell? ⟨w.heap.size,10,none⟩=some (.int .i64 c.h5):=HMc.out.at_ 10
  have hr1:=vnum_rt hv
  by_cases hR:(50:Int)<c.h5
  ·have dR:decide ((50:Int)<c.h5)=true:=decide_eq_true hR
   clear hj hq hnew h40 hv hfw hr1
   go_wp2_with (go_at_call 10;(with_reducible refine (HAW.out _).mono ?_);rintro e w9 ⟨rfl,hk9⟩;have HK9:=hid hk9;clear hk9)
   go_ret
   exact ⟨rfl,(HW3.out).then HK9.out⟩
  obtain ⟨R,hRn⟩:∃ R:Nat,c.h5=(R:Int):=⟨c.h5.toNat,by omega⟩
  rw [hRn] at y10 hR hr1
  have HRN:=hid hRn
  have hR1:1≤R:=by omega
  have hR2:R≤50:=by omega
  have dR:decide ((50:Int)<(R:Int))=false:=decide_eq_false (by omega)
  clear hj hq hnew hv hfw hr1 hRn hR
  have HTA:=hid (fun W (hk:Same w3 W)=>(HAT.out.same (HK2.out.then HK3.out)).same hk)
  have hl40:(l.length:Int)≤40:=by omega
  go_wp2_with fail
  go_loopw [8,40] (fun nv i wr=>∃ (j:Nat) (N:Int),j≤l.length∧i=.int .i64 j∧nv=.int .i64 N∧0≤N∧N≤1099511627776∧Hid (N=maxN (l.take j)∧Same w3 wr)) (fun _ i _=>l.length - (RowKit.intOf i).toNat)
  case atStart=>exact ⟨0,0,Nat.zero_le _,rfl,rfl,by decide,by decide,hid ⟨rfl,Keep.refl _ _⟩⟩
  case round =>
   obtain ⟨j,N,hj,rfl,rfl,hN0,hN1,HI⟩:=hrel
   have hj0:(0:Int)≤(j:Int):=Int.natCast_nonneg _
   by_cases hjn:j<l.length
   ·have hj1:(j:Int)<(l.length:Int):=by omega
    obtain ⟨a,ha⟩:=get_some hjn
    obtain ⟨b1,o1,hB1,_,_,hr1⟩:=(HTA.out wr HI.out.2).sl.at_ (by omega)
    have HR1:=hid (range_at hr1 ha)
    subst hB1
    have HMX:=hid (show maxN (l.take (j+1))=maxS N a from by rw [maxN_step ha,←HI.out.1])
    unfold maxS at HMX
    have HZ:=hid (Blk.made wr 63 #[.int .i64 0,.int .i64 0,.slice none 0 0,.int .i64 0,.int .i64 0,.int .i64 0,.int .i64 0,.int .i64 0,.int .i64 0,.int .i64 0,.int .i64 0,.slice none 0 0,.int .i64 0,.int .i64 0,.slice none 0 0,.int .i64 0])
    clear ha hr1
    go_upto_region 8 with (first
     | (refine wpList_load_mid rfl _ (.tmp 42) rfl b1 (o1+j * 16) rfl a.cells _ HR1.out Tryz.underlying63 rfl (by kernel_rfl) ?_)
     | (refine wpList_store_row rfl _ (.tmp 10) (.tmp 43) rfl wr.heap.size a.cells.toArray rfl rfl _ _ HZ.out (by kernel_rfl) rfl (one_toArray (at_one a)) ?_))
    have hL3:Blk ((wr.alloc (.cells #[.int .i64 0,.int .i64 0,.slice none 0 0,.int .i64 0,.int .i64 0,.int .i64 0,.int .i64 0,.int .i64 0,.int .i64 0,.int .i64 0,.int .i64 0,.slice none 0 0,.int .i64 0,.int .i64 0,.slice none 0 0,.int .i64 0] 63)).setRow wr.heap.size a.cells.toArray) wr.heap.size 63 a.cells.toArray:=HZ.out.row _
    have hk3:Same wr ((wr.alloc (.cells #[.int .i64 0,.int .i64 0,.slice none 0 0,.int .i64 0,.int .i64 0,.int .i64 0,.int .i64 0,.int .i64 0,.int .i64 0,.int .i64 0,.int .i64 0,.slice none 0 0,.int .i64 0,.int .i64 0,.slice none 0 0,.int .i64 0] 63)).setRow wr.heap.size a.cells.toArray):=((Keep.refl (fun _=>False) wr).alloc _).trans (Keep.row _ _ _) (fun j hj e=>by have e2:j=wr.heap.size:=e;omega)
    obtain ⟨g,hg⟩:∃ g,g=wr.heap.size:=⟨_,rfl⟩
    rw [←hg] at hL3 hk3 ⊢
    have hy15:=hL3.at_ 15
    have HK4:=hid hk3
    clear hg hk3 hL3 HZ HR1
    generalize ((wr.alloc (.cells #[.int .i64 0,.int .i64 0,.slice none 0 0,.int .i64 0,.int .i64 0,.int .i64 0,.int .i64 0,.int .i64 0,.int .i64 0,.int .i64 0,.int .i64 0,.slice none 0 0,.int .i64 0,.int .i64 0,.slice none 0 0,.int .i64 0] 63)).setRow g a.cells.toArray)=w4 at *
    have y15:w4.cell? ⟨g,15,none⟩=some (.int .i64 a.now):=hy15
    clear hy15
    obtain ⟨t,ht⟩:∃ t,t=a.now:=⟨_,rfl⟩
    rw [←ht] at y15 HMX
    clear ht
    by_cases h1:N<t
    ·have d1:decide (N<t)=true:=decide_eq_true h1
     by_cases h2:t≤1099511627776
     ·have d2:decide (t≤1099511627776)=true:=decide_eq_true h2
      have HF:=hid (show t=maxN (l.take (j+1))∧Same w3 w4 from ⟨by rw [HMX.out,if_pos ⟨h1,h2⟩],HI.out.2.then HK4.out⟩)
      go_wp2_with fail
      go_roundw
      case rel =>
       first | exact ⟨j+1,t,by omega,by go_num,rfl,by omega,by omega,HF⟩ | ((repeat apply Exists.intro);refine And.intro ?_ rfl;exact ⟨j+1,t,by omega,by go_num,rfl,by omega,by omega,HF⟩)
      case measure=>simp [RowKit.intOf];omega
     ·have d2:decide (t≤1099511627776)=false:=decide_eq_false h2
      have HF:=hid (show N=maxN (l.take (j+1))∧Same w3 w4 from ⟨by rw [HMX.out,if_neg (fun h=>h2 h.2)],HI.out.2.then HK4.out⟩)
      go_wp2_with fail
      go_roundw
      case rel =>
       first | exact ⟨j+1,N,by omega,by go_num,rfl,by omega,by omega,HF⟩ | ((repeat apply Exists.intro);refine And.intro ?_ rfl;exact ⟨j+1,N,by omega,by go_num,rfl,by omega,by omega,HF⟩)
      case measure=>simp [RowKit.intOf];omega
    ·have d1:decide (N<t)=false:=decide_eq_false h1
     have HF:=hid (show N=maxN (l.take (j+1))∧Same w3 w4 from ⟨by rw [HMX.out,if_neg (fun h=>h1 h.1)],HI.out.2.then HK4.out⟩)
     go_wp2_with fail
     go_roundw
     case rel =>
      first | exact ⟨j+1,N,by omega,by go_num,rfl,by omega,by omega,HF⟩ | ((repeat apply Exists.intro);refine And.intro ?_ rfl;exact ⟨j+1,N,by omega,by go_num,rfl,by omega,by omega,HF⟩)
     case measure=>simp [RowKit.intOf];omega
   ·have hjl:j=l.length:=by omega
    subst hjl
    have HNX:=hid (show N=maxN l from by rw [HI.out.1,List.take_length])
    by_cases hbig:1099511627576<N
    ·have db:decide (1099511627576<N)=true:=decide_eq_true hbig
     go_wp2_with (go_at_call 10;(with_reducible refine (HAW.out _).mono ?_);rintro e w9 ⟨rfl,hk9⟩;have HK9:=hid hk9;clear hk9)
     go_ret
     exact ⟨rfl,(HW3.out.then HI.out.2).then HK9.out⟩
    have db:decide (1099511627576<N)=false:=decide_eq_false hbig
    have hN2:N≤1099511627576:=by omega
    have hN0:0≤N:=hN0
    have HJr:=hid (HJ.out.same HI.out.2)
    have hno:=HJr.out.px.noOut
    have HOX:=hid (outboxX HJr.out.px)
    have hnx:∀ i,i=p.x→T i≠none:=fun i hi=>by rw [hi,HJr.out.px.tx];exact fun h=>by cases h
    have hlo:∀ i,T i≠none→w.heap.size<i:=fun i hi=>by have h1:=(HTN.out i hi).1;have h2:=HSZ.out;omega
    have hgp:gy≠p.x:=fun e=>hnx p.x rfl (by rw [←e];exact HTG.out)
    have hmp:w.heap.size≠p.x:=fun e=>by have:=hlo p.x (hnx p.x rfl);omega
    obtain ⟨X,hX⟩:∃ X,X=({ q.pt with out:=[] }:XS):=⟨_,rfl⟩
    have HTS0:=hid (show TS w (wr.setCell ⟨p.x,5,none⟩ (.slice none 0 0)) gy q c p.x X from ⟨⟨T,{ p with out:=[],ov:=.slice none 0 0 },rfl,by rw [hX,←HJr.out.eq];rfl,hno.1,HJr.out.rx.step hno.2 hnx,hlo,HTG.out⟩,
     by rw [hX];exact ⟨HJr.out.ok.c1,HJr.out.ok.c9,HJr.out.ok.wl,HJr.out.ok.el,HJr.out.ok.own,HJr.out.ok.dis,HJr.out.ok.rt,HJr.out.ok.ln⟩,
     (HL.out.keep HI.out.2 (fun f=>f)).keep hno.2.keep hgp,(HMc.out.keep HI.out.2 (fun f=>f)).keep hno.2.keep hmp,(HW3.out.then HI.out.2).trans hno.2.keep (fun i hi e=>by have:=hlo i (hnx i e);omega)⟩)
    have HXE:=hid hX
    have HLX:=hid (show X.L.length≤40∧X.out.length=0∧X.ev.length≤4000 from by
     have h1:=HJ.out.n
     rw [hX]
     exact ⟨by show (q.R.map QA.pt).length≤40;rw [List.length_map];omega,rfl,by show q.ev.length≤4000;omega⟩)
    have HTI:=hid (show OTI q.pt N { q.pt with out:=[] } from OTI.start (fun i m hm=>by
     rw [HQ.out] at hm
     have:=(run_lines HV.out.1 HV.out.2 hm).2.1
     have h2:=HNX.out
     omega))
    have HOK:=hid HJ.out.ok
    have HOWN:=hid HJ.out.own
    have HSRC:=hid (show ∀ (i:Nat) (m:Ln),q.pt.L[i]? = some m→SrcT m.src∧0≤m.s.cen∧m.s.cen<q.pt.cen from fun i m hm=>by
     rw [HQ.out] at hm ⊢
     obtain ⟨h1,_,h3,_⟩:=run_lines HV.out.1 HV.out.2 hm
     rw [HRT.out.1]
     exact ⟨h1,h3⟩)
    have HCC:=hid (show q.c=c from HJ.out.cfg)
    have HR:=hid (show q.pt.rt=(R:Int) from by rw [HQ.out,HRT.out.2];exact HRN.out)
    obtain ⟨x0,hx0⟩:∃ x0,x0=p.x:=⟨_,rfl⟩
    rw [←hx0] at HTS0 HOX ⊢
    clear hno hnx hlo hgp hmp hX hx0 HJr HJ HMc HTN HTG HW3 HQ HV HRT HTA HAT HNL HK2 HK3 HW HM HGY HSZ
    go_upto_region 14 with (go_at_call 12;(with_reducible refine HOX.out.mono ?_);rintro e wo ⟨rfl,hwo⟩;subst hwo)
    clear HOX HI
    generalize (wr.setCell ⟨x0,5,none⟩ (.slice none 0 0))=wo at *
    go_wp2_with fail
    go_loopw [11] (fun tv wb=>∃ j:Nat,j≤2 * R∧tv=.int .i64 ((j:Int)+1)∧Hid (TS w wb gy q c x0 (X.ticksN N j))) (fun tv _=>2 * R+1 - (RowKit.intOf tv).toNat)
    case atStart=>exact ⟨0,Nat.zero_le _,rfl,HTS0⟩
    case round =>
     obtain ⟨j,hj,rfl,HT⟩:=hrel
     have hj0:(0:Int)≤(j:Int):=Int.natCast_nonneg _
     have hjR:(j:Int)≤100:=by omega
     have y10:wr.cell? ⟨w.heap.size,10,none⟩=some (.int .i64 c.h5):=HT.out.m.at_ 10
     rw [HRN.out] at y10
     have HLJ:=hid (ticksN_len X N j)
     by_cases hjr:j<2 * R
     ·have dj:(j:Int)+1≤2 * (R:Int):=by omega
      have h40j:j * X.L.length≤4000:=by
       have h1:=HLX.out.1
       have h2:j * X.L.length≤100 * 40:=Nat.mul_le_mul (by omega) h1
       omega
      have HTK:=hid (HT.out.tick (by have:=HLJ.out.1;have:=HLX.out;omega) (by have:=HLJ.out.2.1;have:=HLX.out;omega) (by rw [HLJ.out.2.2];have:=HLX.out;omega) (N+((j:Int)+1)))
      have HNE:=hid (show X.ticksN N (j+1)=(X.ticksN N j).tick (N+((j:Int)+1)) from by
       show (X.ticksN N j).tick (N+j+1)=_
       rw [Int.add_assoc])
      clear h40j
      go_wp2_with (go_at_call 22;(with_reducible refine HTK.out.mono ?_);rintro e w5 ⟨rfl,ht5⟩;rw [←HNE.out] at ht5;have HT5:=hid ht5;clear ht5)
      go_roundw
      case rel =>
       first | exact ⟨j+1,by omega,by go_num,HT5⟩ | ((repeat apply Exists.intro);refine And.intro ?_ rfl;exact ⟨j+1,by omega,by go_num,HT5⟩)
      case measure=>simp [RowKit.intOf];omega
     ·have hje:j=2 * R:=by omega
      have dj:2 * (R:Int)<(j:Int)+1:=by omega
      obtain ⟨Y,hY⟩:∃ Y,Y=X.ticksN N j:=⟨_,rfl⟩
      have hall:=OTI.all HTI.out hN0 j (by omega)
      rw [←HXE.out,←hY] at hall
      have HYI:=hid hall.1
      have HYO:=hid (hall.2 (by rw [HR.out];omega) (by omega))
      have HYL:=hid (show Y.L.length≤40∧Y.out.length≤4000∧Y.ev.length≤4000 from by
       have h1:=HLX.out
       have h2:=HLJ.out
       rw [←hY] at h2
       have h3:j * X.L.length≤100 * 40:=Nat.mul_le_mul (by omega) h1.1
       rw [h2.2.2]
       omega)
      rw [←hY] at HT
      obtain ⟨T2,p2,hx2,hpt2,hp2,hr2,hlo2,hg2⟩:=HT.out.ex
      have HPT:=hid hpt2
      have hmm:=@run_makeMap Tryz.prog
      obtain ⟨mb,hmb⟩:∃ b,b=wr.heap.size:=⟨_,rfl⟩
      have hm0:=GMap.made wr (.bool false)
      have hkm:Same wr (wr.alloc (.map #[] 0)):=(Keep.refl _ _).alloc _
      have hmv:=Mv.rsv (T:=T2) hp2.lt hkm
      have hszm:(wr.alloc (.map #[] 0)).heap.size=mb+1:=by rw [World.size_alloc,←hmb]
      have hT3:(T2.rsv wr.heap.size (wr.alloc (.map #[] 0)).heap.size) mb=some .rsv:=Tags.rsv_at (by omega) (by omega)
      have hT3g:(T2.rsv wr.heap.size (wr.alloc (.map #[] 0)).heap.size) gy=none:=by rw [hmv.old gy HT.out.y.lt];exact hg2
      have hlo3:∀ i,(T2.rsv wr.heap.size (wr.alloc (.map #[] 0)).heap.size) i≠none→w.heap.size<i:=fun i hi=>by
       rcases hmv.new i hi with e | e
       ·exact hlo2 i e
       ·have:=HT.out.m.lt;omega
      have hp3:=hp2.mvR hmv (fun _ f=>f.elim)
      have hr3:=hr2.step hmv (fun _ f=>f.elim)
      have hgm:gy≠mb:=by have:=HT.out.y.lt;omega
      have hcm:w.heap.size≠mb:=by have:=HT.out.m.lt;omega
      have HTm:=hid (HT.out.keep hkm)
      rw [←hmb] at hm0
      clear hr2 hp2 hlo2 hg2
      obtain ⟨T3,hT3e⟩:∃ T3,T3=T2.rsv wr.heap.size (wr.alloc (.map #[] 0)).heap.size:=⟨_,rfl⟩
      rw [←hT3e] at hT3 hT3g hlo3 hp3 hr3
      clear hT3e hmv
      subst hx2
      obtain ⟨OV,ovc,hov⟩:=hp3.out.own.shape
      have HOX:=hid (outboxX hp3)
      rw [hov] at HOX
      have hno:=hp3.noOut
      have htx:=hp3.tx
      have hx3:∀ i,i=p2.x→T3 i≠none:=fun i hi=>by rw [hi,htx];exact fun h=>by cases h
      have hrow:Sl ((wr.alloc (.map #[] 0)).setCell ⟨p2.x,5,none⟩ (.slice none 0 0)) (fun i=>i=mb) 3 OV p2.out.length (p2.out.flatMap PkA.cells):=by
       have h1:=hp3.out.own.keepB hno.2.keep (fun g hg e=>by
        have e2:g=p2.x:=e
        have h2:=hp3.out.tag g hg
        rw [e2,htx] at h2
        injection h2 with h2;cases h2)
       rw [hov] at h1
       have h5:=h1.sl (Av:=fun _=>False) (fun _ _ f=>f)
       refine ⟨h5.len,fun hn=>?_⟩
       obtain ⟨b,off,e,k1,_,k3⟩:=h5.at_ hn
       refine ⟨b,off,e,k1,fun e2=>?_,k3⟩
       have e2:b=mb:=e2
       have h2:=hp3.out.tag b (by rw [hov,e];rfl)
       rw [e2,hT3] at h2
       injection h2 with h2;cases h2
      have hmx:mb≠p2.x:=fun e=>by rw [e,htx] at hT3;injection hT3 with h;cases h
      have HU:=hid (fun W (hk:Keep (fun i=>i=mb) ((wr.alloc (.map #[] 0)).setCell ⟨p2.x,5,none⟩ (.slice none 0 0)) W)=>show PX W T3 { p2 with out:=[],ov:=.slice none 0 0 }∧RX W (fun i=>T3 i≠none) q∧Blk W gy 35 q.cells.toArray∧Blk W w.heap.size 27 c.cells.toArray∧Sl W (fun i=>i=mb) 3 OV p2.out.length (p2.out.flatMap PkA.cells)∧(∀ y∈p2.out,Sl W (fun i=>T3 i≠none) 1 y.A y.b.length (bcells y.b))∧Same w W from by
       have hm2:∀ i,i=mb→T3 i=some .rsv:=fun i e=>by rw [e];exact hT3
       have hm3:∀ i,i=mb→T3 i≠none:=fun i e=>by rw [e,hT3];exact fun h=>by cases h
       have m:=Mv.put (T:=T3) hno.1.lt hk
       have hwl:=HT.out.m.lt
       refine ⟨hno.1.mvR m hm2,(hr3.step hno.2 hx3).step m hm3,(HTm.out.y.keep hno.2.keep (fun e=>hx3 gy e hT3g)).keep hk hgm,(HTm.out.m.keep hno.2.keep (fun e=>?_)).keep hk hcm,hrow.keep hk (fun _ _ e=>e),fun y hy=>m.slice hm3 (hno.2.slice hx3 (hp3.body y hy)),?_⟩
       ·have:=hlo3 w.heap.size (hx3 _ e);omega
       ·exact (HTm.out.same.trans hno.2.keep (fun i hi e=>by have:=hlo3 i (hx3 i e);omega)).trans hk (fun i hi e=>by have e2:i=mb:=e;omega))
      have HM0:=hid (hm0.keep hno.2.keep hmx)
      have HLM:=hid (show w.heap.size<mb from by have:=HT.out.m.lt;omega)
      clear hm0 hkm hszm hT3 hT3g hlo3 hp3 hr3 hgm hcm hno htx hx3 hrow hmx hov hall HT HTm hpt2
      go_upto_region 19 with fail
      rw [←hmb]
      clear hmm hmb
      go_upto_region 20 with (go_at_call 12;(with_reducible refine HOX.out.mono ?_);rintro e w6 ⟨rfl,hw6⟩;subst hw6)
      clear HOX y10 HTS0
      generalize ((wr.alloc (.map #[] 0)).setCell ⟨p2.x,5,none⟩ (.slice none 0 0))=wo3 at *
      have HYN:=hid (show p2.out.length=Y.out.length from by rw [←HPT.out];simp [PS.pt])
      obtain ⟨n,hn⟩:∃ n,n=p2.out.length:=⟨_,rfl⟩
      rw [←hn]
      have HN:=hid hn
      have hn4:n≤4000:=by have h1:=HYN.out;have h2:=HYL.out;omega
      clear hn
      have hn5:(n:Int)≤4000:=by omega
      go_wp2_with fail
      go_loopw [77] (fun i wb=>∃ (j:Nat) (K:List Int),j≤n∧i=.int .i64 j∧Hid (GMap wb mb j (.bool false) K (fun k=>.bool (decide (k∈K)))∧Tells Y j K∧Keep (fun i=>i=mb) wo3 wb)) (fun i _=>n - (RowKit.intOf i).toNat)
      case atStart=>exact ⟨0,[],Nat.zero_le _,rfl,hid ⟨by
       have h:=HM0.out
       rw [show (fun _:Int=>Value.bool false)=fun k=>.bool (decide (k∈([]:List Int))) from by funext k;simp] at h
       exact h,fun k=>by simp,Keep.refl _ _⟩⟩
      case round =>
       obtain ⟨j,K,hj,rfl,HI⟩:=hrel
       have hj0:(0:Int)≤(j:Int):=Int.natCast_nonneg _
       obtain ⟨hu1,hu2,hu3,hu4,hu5,hu6,hu7⟩:=HU.out wr HI.out.2.2
       by_cases hjn:j<n
       ·have hj1:(j:Int)<(n:Int):=by omega
        obtain ⟨y,hy⟩:=get_some (l:=p2.out) (k:=j) (by rw [←HN.out];exact hjn)
        have hyY:Y.out[j]? = some y.pt:=by rw [←HPT.out];simp [PS.pt,hy]
        obtain ⟨k,ln,hO⟩:=offd_of HYI.out HOK.out HSRC.out (List.mem_of_getElem? hyY)
        obtain ⟨x,hx,hxp⟩:=QS.line_at rfl hO.at_
        subst hxp
        have hraw:rawM y.b=offM x.pt:=hO.raw
        have hcall:x.s.call=(k:Int)+1:=hO.call
        have hyf:y.f=c.cen:=by rw [←HCC.out];exact hO.f
        have hyt:y.t=x.s.cen:=hO.t
        have HTL:=hid (HI.out.2.1.next hyY)
        have hkey:(rawM y.pt.b).call=(k:Int)+1:=by
         show (rawM y.b).call=_
         rw [hraw];exact hcall
        rw [hkey] at HTL
        have hkn:k<q.R.length:=(List.getElem?_eq_some_iff.1 hx).1
        have hk40:q.R.length≤40:=by
         have h1:X.L.length≤40:=HLX.out.1
         have h2:q.pt.L.length=q.R.length:=by simp [QS.pt]
         have h3:X.L.length=q.pt.L.length:=by rw [HXE.out]
         omega
        have hdec:=decode_any (A:=y.A) (n:=y.b.length) (c:=y.c) (b:=y.b)
        have herr:errM y.b=0:=hO.err
        have hbl:y.b.length≤10000:=hO.len
        have HBD:=hid (fun W (hk:Same wr W)=>(hu6 y (List.mem_of_getElem? hy)).same hk)
        have HD:=hid (fun W (hk:Same wr W)=>show Calls Tryz.prog 23 #[.slice y.A y.b.length y.c] W (fun e w'=>∃ B c,e=.returned (.tuple #[.agg ((offM x.pt).cells B c).toArray,.int .i64 0])∧Sl w' (· < W.heap.size) 1 B (bodyL x.pt).length (bcells (bodyL x.pt))∧Same W w') from
         (hdec W ((HBD.out W hk).wide (fun _ _ f=>f.elim)) (by omega)).mono (fun e w' hh=>by
           obtain ⟨h1,h2,_⟩:=hh
           obtain ⟨B,c,h3,h4⟩:=h2 herr
           rw [hraw] at h3 h4
           exact ⟨B,c,h3,h4,h1⟩))
        obtain ⟨b1,o1,hOV,hb1,_,hrw⟩:=hu5.at_ (by have:=HN.out;omega)
        have HRG:=hid (range_pk hrw hy)
        subst hOV
        have HXX:=hid hx
        have HKN:=hid (And.intro hkn hk40)
        have HBOK:=hid (show LnOk x.pt from (HOK.out.ln k x.pt hO.at_).1)
        have HUS:=hid (And.intro hu2 (And.intro hu3 (And.intro hu4 hu7)))
        have HCALL:=hid hcall
        have HYF:=hid (And.intro hyf hyt)
        have HZ3:=hid (Blk.made wr 56 #[.int .i64 0,.int .i64 0,.slice none 0 0])
        clear hy hyY hO hx hraw hcall hyf hyt hkey hkn hk40 hdec herr hbl hrw hb1 hu1 hu2 hu3 hu4 hu5 hu6 hu7
        go_upto_region 22 with (first
         | (refine wpList_load_mid rfl _ (.tmp 79) rfl b1 (o1+j * 3) rfl y.cells _ HRG.out Tryz.underlying56 rfl (by kernel_rfl) ?_)
         | (refine wpList_store_row rfl _ (.tmp 14) (.tmp 80) rfl wr.heap.size y.cells.toArray rfl rfl _ _ HZ3.out (by kernel_rfl) rfl (one_toArray (pk_one y)) ?_))
        have hL4:Blk ((wr.alloc (.cells #[.int .i64 0,.int .i64 0,.slice none 0 0] 56)).setRow wr.heap.size y.cells.toArray) wr.heap.size 56 y.cells.toArray:=HZ3.out.row _
        have hk4:Same wr ((wr.alloc (.cells #[.int .i64 0,.int .i64 0,.slice none 0 0] 56)).setRow wr.heap.size y.cells.toArray):=((Keep.refl (fun _=>False) wr).alloc _).trans (Keep.row _ _ _) (fun j hj e=>by have e2:j=wr.heap.size:=e;omega)
        obtain ⟨g4,hg4⟩:∃ g,g=wr.heap.size:=⟨_,rfl⟩
        rw [←hg4] at hL4 hk4 ⊢
        have HL4:=hid hL4
        have HK4:=hid hk4
        clear hg4 hL4 hk4 HZ3 HRG
        generalize ((wr.alloc (.cells #[.int .i64 0,.int .i64 0,.slice none 0 0] 56)).setRow g4 y.cells.toArray)=w4 at *
        have u2:w4.cell? ⟨g4,2,none⟩=some (.slice y.A y.b.length y.c):=HL4.out.at_ 2
        go_upto_region 23 with (first
         | (go_at_call 23;(with_reducible refine (HD.out _ HK4.out).mono ?_);rintro e w5 ⟨MB,mc,rfl,hsb,hk5⟩;have HSB:=hid hsb;have HK5:=hid hk5;have HZ7:=hid (Blk.made w5 66 #[.int .i64 0,.int .i64 0,.int .i64 0,.int .i64 0,.int .i64 0,.int .i64 0,.slice none 0 0]);clear hsb hk5)
         | (refine wpList_store_row rfl _ (.tmp 15) (.tmp 85) rfl w5.heap.size ((offM x.pt).cells MB mc).toArray rfl rfl _ _ HZ7.out (by kernel_rfl) rfl (nt_one _ _ _) ?_))
        have hL6:Blk ((w5.alloc (.cells #[.int .i64 0,.int .i64 0,.int .i64 0,.int .i64 0,.int .i64 0,.int .i64 0,.slice none 0 0] 66)).setRow w5.heap.size ((offM x.pt).cells MB mc).toArray) w5.heap.size 66 ((offM x.pt).cells MB mc).toArray:=HZ7.out.row _
        have hk6:Same w5 ((w5.alloc (.cells #[.int .i64 0,.int .i64 0,.int .i64 0,.int .i64 0,.int .i64 0,.int .i64 0,.slice none 0 0] 66)).setRow w5.heap.size ((offM x.pt).cells MB mc).toArray):=((Keep.refl (fun _=>False) w5).alloc _).trans (Keep.row _ _ _) (fun j hj e=>by have e2:j=w5.heap.size:=e;omega)
        obtain ⟨g6,hg6⟩:∃ g,g=w5.heap.size:=⟨_,rfl⟩
        rw [←hg6] at hL6 hk6 ⊢
        have HL6:=hid hL6
        have HK46:=hid (HK5.out.then hk6)
        have HSB6:=hid ((HSB.out.wide (Av':=fun _=>False) (fun _ _ f=>f.elim)).same hk6)
        have HK6:=hid (HK4.out.then HK46.out)
        have hpt:(offM x.pt).cells MB mc=[.int .i64 4,.int .i64 x.s.call,.int .i64 x.d,.int .i64 x.s.cen,.int .i64 x.s.ep,.int .i64 x.s.ans.length,.slice MB (bodyL x.pt).length mc]:=rfl
        clear hg6 hL6 hk6 HZ7 u2 HSB HD
        generalize ((w5.alloc (.cells #[.int .i64 0,.int .i64 0,.int .i64 0,.int .i64 0,.int .i64 0,.int .i64 0,.slice none 0 0] 66)).setRow g6 ((offM x.pt).cells MB mc).toArray)=w6 at *
        have v1:w6.cell? ⟨g6,1,none⟩=some (.int .i64 x.s.call):=HL6.out.at_ 1
        rw [HCALL.out] at v1
        have HGY6:=hid (HUS.out.2.1.keep HK6.out (fun f=>f))
        have HF:=hid (findQ w6 q (by have:=HKN.out;omega) ((k:Int)+1))
        rw [findI_at HKN.out.1] at HF
        have hk0:(0:Int)≤(k:Int):=Int.natCast_nonneg _
        have hk1:(k:Int)<(q.R.length:Int):=by have:=HKN.out;omega
        have hk2:(k:Int)<40:=by have:=HKN.out;omega
        have dk:decide ((k:Int)<0)=false:=decide_eq_false (by omega)
        go_upto_region 24 with (first
         | (refine wpList_load_row rfl _ (.tmp 6) rfl gy rfl _ q.cells.toArray (0,0) _ HGY6.out Tryz.underlying35 rfl (by kernel_rfl) ?_)
         | (go_at_call 16;(with_reducible refine HF.out.mono ?_);rintro e w7 ⟨rfl,hk7⟩;have HK67:=hid hk7;clear hk7))
        have HK7:=hid (HK6.out.then HK67.out)
        obtain ⟨rb,off,hLA,hrb,_,hrow⟩:=(HUS.out.1.same HK7.out).L.at_ (by have:=HKN.out;omega)
        have hrg:=range_row hrow HXX.out
        have HSD:=hid (fun W (hk:Same w7 W)=>show W.cell? ⟨g6,0,none⟩=some (.int .i64 4)∧W.cell? ⟨g4,0,none⟩=some (.int .i64 c.cen)∧W.cell? ⟨w.heap.size,0,none⟩=some (.int .i64 c.cen)∧W.cell? ⟨g4,1,none⟩=some (.int .i64 x.s.cen)∧W.cell? ⟨gy,15,none⟩=some (.slice (some ⟨rb,off,none⟩) q.R.length q.lc)∧W.cell? ⟨rb,off+k * 11+3,none⟩=some (.int .i64 x.s.cen)∧W.rangeAt rb (off+k * 11) x.cells∧Sl W (fun _=>False) 1 MB (bodyL x.pt).length (bcells (bodyL x.pt))∧W.cell? ⟨g6,6,none⟩=some (.slice MB (bodyL x.pt).length mc) from by
         have h15:=((HUS.out.2.1.keep HK7.out (fun f=>f)).keep hk (fun f=>f)).at_ 15
         have h6:=(HL6.out.keep HK67.out (fun f=>f)).keep hk (fun f=>f)
         have h4:=((HL4.out.keep HK46.out (fun f=>f)).keep HK67.out (fun f=>f)).keep hk (fun f=>f)
         have hc:=((HUS.out.2.2.1.keep HK7.out (fun f=>f)).keep hk (fun f=>f)).at_ 0
         refine ⟨h6.at_ 0,?_,hc,?_,?_,?_,range_same hrg hk,(HSB6.out.same HK67.out).same hk,h6.at_ 6⟩
         ·rw [←HYF.out.1];exact h4.at_ 0
         ·rw [←HYF.out.2];exact h4.at_ 1
         ·rw [←hLA];exact h15
         ·exact (hk.cell (p:=⟨rb,off+k * 11+3,none⟩) hrb (fun f=>f)).trans (hrg 3 _ rfl))
        have HBY:=hid (fun W (hk:Same w7 W)=>body_any W _ x (((HUS.out.1.same HK7.out).same hk).lin x (List.mem_of_getElem? HXX.out)) HBOK.out)
        unfold OwnPost at HBY
        clear hLA hrb hrow hrg v1 HF HGY6 HSB6
        refine wp_region_held_drew (S:=fun W=>W.cell? ⟨g6,0,none⟩=some (.int .i64 4)∧W.cell? ⟨g4,0,none⟩=some (.int .i64 c.cen)∧W.cell? ⟨w.heap.size,0,none⟩=some (.int .i64 c.cen)∧W.cell? ⟨g4,1,none⟩=some (.int .i64 x.s.cen)∧W.cell? ⟨gy,15,none⟩=some (.slice (some ⟨rb,off,none⟩) q.R.length q.lc)∧W.cell? ⟨rb,off+k * 11+3,none⟩=some (.int .i64 x.s.cen)∧W.rangeAt rb (off+k * 11) x.cells∧Sl W (fun _=>False) 1 MB (bodyL x.pt).length (bcells (bodyL x.pt))∧W.cell? ⟨g6,6,none⟩=some (.slice MB (bodyL x.pt).length mc)) (by kernel_rfl) (HSD.out _ ((Keep.refl _ _).drew)) (fun hHeld=>?_)
        have HKd:=hid (Keep.refl (fun _=>False) w7).drew
        generalize w7.drew=wd at *
        refine tk 0 ?_
        refine tk 1 ?_
        try simp only [bne_self_eq_false]
        refine tk 2 ?_
        refine tk 3 ?_
        refine tk 4 ?_
        refine tk 5 ?_
        try simp only [bne_self_eq_false]
        refine tk 6 ?_
        refine tk 7 ?_
        refine tk 8 ?_
        refine tk 9 ?_
        try simp only [dk]
        refine tk 10 ?_
        refine tk 11 ?_
        refine tk 12 ?_
        refine tk 13 ?_
        refine tk 14 ?_
        refine tk 15 ?_
        refine tk 16 ?_
        try simp only [bne_self_eq_false]
        refine tk 17 ?_
        refine tk 18 ?_
        refine tk 19 ?_
        refine tk 20 ?_
        refine tk 21 ?_
        refine tk 22 ?_
        refine tk 23 ?_
        refine tk 24 ?_
        refine tk 25 ?_
        refine tk 26 ?_
        refine tk 27 ?_
        refine tk 28 ?_
        try simp only [bne_self_eq_false]
        refine tk 29 ?_
        refine tk 30 ?_
        refine tk 31 ?_
        refine tk 32 ?_
        refine tk 33 ?_ (hy:=by (refine Or.inl ⟨by rfl,?_⟩;intro w hSw;obtain ⟨_,_,_,_,_,_,_,hS7,hS8⟩:=hSw;have hcv:=conv_str w _ MB (bodyL x.pt).length mc (bodyL x.pt) hS7;go_simp;try with_reducible rfl))
        refine tk 34 ?_
        refine tk 35 ?_
        refine tk 36 ?_
        refine tk 37 ?_
        refine tMw 38 (.tmp 128) rb (off+k * 11) x.cells (fun W hS=>hS.2.2.2.2.2.2.1) Tryz.underlying53 ?_
        refine rd1 39 (fun K hK=>?_)
        go_simp
        (with_reducible refine (HBY.out _ HKd.out).mono ?_)
        rintro e8 w8 ⟨A8,c8,rfl,ho8,hk8⟩
        have HS8:=hid ho8.slN
        have HD8:=hid (HKd.out.then hk8)
        clear ho8 hk8
        refine hK.out _ _ (HSD.out _ HD8.out) (fun hHeld8=>?_)
        clear hK K
        refine pput ?_
        refine rd1 40 (fun K hK=>?_)
        have hcv:=conv_str w8 _ A8 (bodyL x.pt).length c8 (bodyL x.pt) HS8.out
        go_simp
        refine hK.out _ _ (HSD.out _ HD8.out) (fun hHeld9=>?_)
        clear hK K hcv
        refine pput ?_
        refine tk 41 ?_
        try simp only [bne_self_eq_false]
        refine tk 42 ?_
        refine wpAnyH_done (by kernel_rfl) ?_ _
        go_upto_region 26 with fail
        have HKF:=hid (HK7.out.then HD8.out)
        have v1:w8.cell? ⟨g6,1,none⟩=some (.int .i64 x.s.call):=((HL6.out.keep HK67.out (fun f=>f)).keep HD8.out (fun f=>f)).at_ 1
        rw [HCALL.out] at v1
        have HGM:=hid (HI.out.1.keep HKF.out (fun f=>f))
        have HKQ:=hid (HI.out.2.2.then HKF.out)
        have HAD:=hid (show (fun i:Int=>if i=(k:Int)+1 then Value.bool true else .bool (decide (i∈K)))=fun i=>.bool (decide (i∈addK K ((k:Int)+1))) from by
         funext i
         by_cases e:i=(k:Int)+1
         ·rw [if_pos e,decide_eq_true ((addK_mem K _ _).2 (.inl e))]
         ·rw [if_neg e]
          congr 1
          rw [decide_eq_decide,addK_mem]
          simp [e])
        clear HSD HBY hHeld8 hHeld9 HS8 HKd
        go_wp2_with (first
         | (at_mapUpdate
            refine gput rfl _ _ _ 65 4 Tryz.underlying65 rfl mb j (.bool false) K _ rfl HGM.out (by unfold maxLen;omega) ((k:Int)+1) rfl (wf64 (by omega) (by omega)) (.bool true) rfl ?_
            intro w9 hm9 hg9
            rw [HAD.out] at hm9
            have HM9:=hid hm9
            have HK9:=hid (HKQ.out.grown hg9 (fun g e _=>by injection e with e;exact e.symm))
            clear hm9 hg9))
        go_roundw
        case rel =>
         have HF:=hid (show GMap w9 mb (j+1) (.bool false) (addK K ((k:Int)+1)) (fun i=>.bool (decide (i∈addK K ((k:Int)+1))))∧Tells Y (j+1) (addK K ((k:Int)+1))∧Keep (fun i=>i=mb) wo3 w9 from ⟨HM9.out,HTL.out,HK9.out⟩)
         first | exact ⟨j+1,addK K ((k:Int)+1),by omega,by go_num,HF⟩ | ((repeat apply Exists.intro);refine And.intro ?_ rfl;exact ⟨j+1,addK K ((k:Int)+1),by omega,by go_num,HF⟩)
        case measure=>simp [RowKit.intOf];omega
       ·have hjl:j=n:=by omega
        have hT:Tells Y Y.out.length K:=by
         have h:=HI.out.2.1
         rw [show j=Y.out.length by have h1:=HN.out;have h2:=HYN.out;omega] at h
         exact h
        have hK:=hT.all HYI.out HOK.out HSRC.out HYO.out
        have hlen:K.length=q.pt.opens.length:=Nat.le_antisymm (nodup_le HI.out.1.nodup (fun v hv=>(hK v).1 hv)) (nodup_le (opens_nodup _) (fun v hv=>(hK v).2 hv))
        have hq40:q.pt.L.length≤40:=by
         have h1:X.L.length≤40:=HLX.out.1
         have h3:X.L.length=q.pt.L.length:=by rw [HXE.out]
         omega
        have hol:q.pt.opens.length≤40:=by
         unfold XS.opens openN
         rw [List.length_map]
         refine Nat.le_trans (List.length_filter_le _ _) ?_
         rw [List.length_range]
         exact hq40
        have hob:∀ v∈q.pt.opens,1≤v∧v≤41:=fun v hv=>by
         obtain ⟨i,m,rfl,hm,_⟩:=opens_mem.1 hv
         have:=(List.getElem?_eq_some_iff.1 hm).1
         omega
        have hop:({ p2 with out:=[],ov:=.slice none 0 0 }:PS).pt.opens=q.pt.opens:=by
         show p2.pt.opens=_
         rw [HPT.out,HYI.out.opens]
        have hpl:({ p2 with out:=[],ov:=.slice none 0 0 }:PS).R.length≤1000:=by
         have h1:p2.pt.L.length=p2.R.length:=by simp [PS.pt]
         rw [HPT.out] at h1
         have h2:=HYL.out.1
         show p2.R.length≤1000
         omega
        have HOPX:=hid (fun W (hk:Same wr W)=>opensX (hu1.same hk) hpl)
        unfold NI at HOPX
        rw [hop] at HOPX
        obtain ⟨O,hO⟩:∃ O,O=q.pt.opens:=⟨_,rfl⟩
        rw [←hO] at HOPX hlen hol hob
        have HKM:=hid (show ∀ v,v∈O→v∈K from fun v hv=>(hK v).2 (by rw [←hO];exact hv))
        have HLEN:=hid hlen
        have HOB:=hid hob
        have HS7:=hid hu7
        have HGM:=hid HI.out.1
        obtain ⟨wx,hwx⟩:∃ x,x=wr:=⟨_,rfl⟩
        subst hwx
        clear hu1 hu2 hu3 hu4 hu5 hu6 hu7 hT hK hlen hob hop hpl hO hq40
        go_upto_region 29 with (go_at_call 25;(with_reducible refine (HOPX.out _ (Keep.refl _ _)).mono ?_);rintro e w4 ⟨A1,c1,rfl,hs1,hk1⟩;have HS1:=hid hs1;have HK1:=hid hk1;clear hs1 hk1)
        have hol2:(O.length:Int)≤40:=by omega
        go_wp2_with fail
        go_loopw [141] (fun i wb=>∃ j2:Nat,j2≤O.length∧i=.int .i64 j2∧Hid (Same w4 wb)) (fun i _=>O.length - (RowKit.intOf i).toNat)
        case atStart=>exact ⟨0,Nat.zero_le _,rfl,hid (Keep.refl _ _)⟩
        case round =>
         obtain ⟨j2,hj2,rfl,HI4⟩:=hrel
         have hj20:(0:Int)≤(j2:Int):=Int.natCast_nonneg _
         have HGW:=hid (HGM.out.keep (HK1.out.then HI4.out) (fun f=>f))
         by_cases hjo:j2<O.length
         ·have hj21:(j2:Int)<(O.length:Int):=by omega
          obtain ⟨v,hv⟩:=get_some hjo
          obtain ⟨b5,o5,hB5,_,y5⟩:=int_at (HS1.out.same HI4.out) hv
          subst hB5
          have hvb:=HOB.out v (List.mem_of_getElem? hv)
          have HVK:=hid (show Value.bool (decide (v∈K))=.bool true from by rw [decide_eq_true (HKM.out v (List.mem_of_getElem? hv))])
          clear hv
          go_wp2_with (first
           | (at_lookup
              refine glook rfl _ _ 65 4 Tryz.underlying65 rfl mb j (.bool false) (zeroBo _) K _ rfl HGW.out v rfl (wf64 (by omega) (by omega)) (.bool true) HVK.out ?_))
          go_roundw
          case rel =>
           first | exact ⟨j2+1,by omega,by go_num,HI4⟩ | ((repeat apply Exists.intro);refine And.intro ?_ rfl;exact ⟨j2+1,by omega,by go_num,HI4⟩)
          case measure=>simp [RowKit.intOf];omega
         ·obtain rfl:j2=O.length:=by omega
          go_wp2_with (first
           | (at_len
              refine glen rfl _ 65 4 Tryz.underlying65 rfl mb j (.bool false) K _ rfl HGW.out ?_
              rw [HLEN.out])
           | (go_at_call 25;(with_reducible refine (HOPX.out _ (HK1.out.then HI4.out)).mono ?_);rintro e w5 ⟨A5,c5,rfl,_,hk5⟩;have HK5:=hid hk5;clear hk5)
           | (go_at_call 10;(with_reducible refine (HAW.out _).mono ?_);rintro e w9 ⟨rfl,hk9⟩;have HK9:=hid hk9;clear hk9))
          go_ret
          exact ⟨rfl,(((HS7.out.then HK1.out).then HI4.out).then HK5.out).then HK9.out⟩
end Go.Proofs.YtbjddfiledoaoaaGreat

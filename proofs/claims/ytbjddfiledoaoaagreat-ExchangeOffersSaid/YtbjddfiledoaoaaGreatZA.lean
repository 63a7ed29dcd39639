import Derived.Test.YtbjddfiledoaoaaGreatYZ
import Derived.Test.YtbjddfiledoaoaaGreatYY
import Derived.Test.YtbjddfiledoaoaaGreatYN
import Derived.Test.YtbjddfiledoaoaaGreatConfF
namespace Go.Proofs.YtbjddfiledoaoaaGreat
open Go.RowKit
theorem doJ {w:World} {T:Tags} {p:PS} {q:QS} {c:CF} {b:Nat} (J:JJ w T p q c b) (hb:b≤60) (a:AT) (ha:ATok w (fun i=>T i≠none) a) (hf:fewA a=true):Calls Tryz.prog 29 #[.pointer (some ⟨p.x,0,none⟩),.agg q.cells.toArray,.agg a.cells.toArray] w (DoP w T p.x q.pt c b a):=by
 by_cases h0:a.k=0
 ·exact do_dial J hb a ha hf h0
 ·by_cases h1:a.k=1
  ·exact do_ans J hb a ha hf h1
  ·by_cases h2:a.k=2
   ·exact do_hang J hb a ha hf h2
   ·by_cases h3:a.k=3
    ·exact do_pack J hb a ha hf h3
    ·by_cases h4:a.k=4
     ·exact do_tick J hb a ha hf h4
     ·by_cases h5:a.k=5
      ·exact do_take J hb a ha hf h5
      ·exact do_none J hb a ha hf h0 h1 h2 h3 h4 h5
theorem results_mid {P:Program} {fn:Func} {p q r:Tmp} {ty:TypeId} (h:fn.results=#[.tmp p,.cell q ty,.tmp r]) (tmps:Array Value) (w:World) (g:Nat) (t:TypeId) (cs:Array Value) (fr:Nat × Nat) (d:TypeDesc) (v v2:Value)
 (hp:tmps.getD p undef=v) (hq:tmps.getD q undef=.pointer (some ⟨g,0,none⟩)) (hr:tmps.getD r undef=v2) (hg:w.heap[g]? = some (.cells cs t fr))
 (hu:P.underlying ty=some d) (hd:(match d with | .struct _ | .array _ _=>true | _=>false)=true) (hi:(P.info? ty).map (·.size)=some cs.size) :
 (results fn tmps).run P w=.ok (.tuple #[v,.agg cs,v2]) w:=by
 have hp':tmps[p]?.getD undef=v:=by simpa using hp
 have hq':tmps[q]?.getD undef=.pointer (some ⟨g,0,none⟩):=by simpa using hq
 have hr':tmps[r]?.getD undef=v2:=by simpa using hr
 simp [results,h,hp',hq',hr',asAddr,run_loadVar_row w g t ty cs fr d hg hu hd hi]
def runX (X:XS) (l:List AT):XS:=l.foldl (fun X a=>actX X a (bodyA a)) X
theorem runX_take {X:XS} {l:List AT} {j:Nat} {a:AT} (h:l[j]? = some a):runX X (l.take (j+1))=actX (runX X (l.take j)) a (bodyA a):=by
 unfold runX
 rw [take_snoc h,List.foldl_append];rfl
def PlP (w:World) (c:CF) (l:List AT) (e:Ending) (w':World):Prop :=
 (e=.returned (.tuple #[.pointer none,.agg zero20.toArray,.bool true])∧Same w w') ∨
 (∃ (T:Tags) (p:PS) (q:QS),e=.returned (.tuple #[.pointer (some ⟨p.x,0,none⟩),.agg q.cells.toArray,.bool true])∧JJ w' T p q c l.length∧q.pt=runX (newX c) l∧(∀ i,T i≠none→w.heap.size≤i)∧Same w w'∧l.length≤40∧vnum c=0∧∀ a∈l,fewA a=true)
structure PLY (w wr:World) (T:Tags) (p:PS) (q:QS) (c:CF) (l:List AT) (j x0 gy:Nat):Prop where
 jj:JJ wr T p q c j
 px:p.x=x0
 pt:q.pt=runX (newX c) (l.take j)
 t1:T (w.heap.size+1)=some .rsv
 ty:T gy=some .rsv
 ne:gy≠w.heap.size+1
 res:Blk wr (w.heap.size+1) 35 zero20.toArray
 blk:Blk wr gy 35 q.cells.toArray
 new:∀ i,T i≠none→w.heap.size≤i
 same:Same w wr
theorem PLY.keep {w wr W:World} {T:Tags} {p:PS} {q:QS} {c:CF} {l:List AT} {j x0 gy:Nat} (h:PLY w wr T p q c l j x0 gy) (hk:Same wr W):PLY w W T p q c l j x0 gy :=
 ⟨h.jj.same hk,h.px,h.pt,h.t1,h.ty,h.ne,h.res.keep hk (fun f=>f),h.blk.keep hk (fun f=>f),h.new,h.same.then hk⟩
theorem PX.retag {w:World} {T T':Tags} {p:PS} (h:PX w T p) (hT:∀ i,T i≠none→T' i=T i) (hR:p.R=[]) (hO:p.out=[]) (hd:Sl w (fun i=>T' i≠none) 1 p.D p.dis.length (icells p.dis)) (hl:∀ i,T' i≠none→i<w.heap.size):PX w T' p:=by
 have hN:∀ {i t},T i=some t→T' i=some t:=fun {i t} e=>by rw [hT i (by rw [e];exact fun h=>by cases h)];exact e
 refine ⟨h.hdr,hN h.tx,hd,⟨h.hold.own,fun g hg=>hN (h.hold.tag g hg)⟩,⟨h.lines.own,fun g hg=>hN (h.lines.tag g hg)⟩,(fun k x hx=>by rw [hR] at hx;simp at hx),⟨h.out.own,fun g hg=>hN (h.out.tag g hg)⟩,(fun y hy=>by rw [hO] at hy;cases hy),⟨h.ev.own,fun g hg=>hN (h.ev.tag g hg)⟩,hl⟩
set_option maxHeartbeats 8000000 in
set_option maxRecDepth 100000 in
theorem playedJ (w:World) (c:CF) (hmm:CM w c) (hff:Few c) (B:Option Addr) (cb:Nat) (l:List AT) (hl:ATs w (fun _=>False) B l) (hn:l.length≤maxLen):Calls Tryz.prog 9 #[.agg c.cells.toArray,.slice B l.length cb] w (PlP w c l):=by
 have hm:=(Blk.made w 27 c.cells.toArray).alloc (.cells zero20.toArray 35)
 have hz:=Blk.made (w.alloc (.cells c.cells.toArray 27)) 35 zero20.toArray
 have hw:Same w ((w.alloc (.cells c.cells.toArray 27)).alloc (.cells zero20.toArray 35)):=((Keep.refl _ _).alloc _).alloc _
 rw [World.size_alloc] at hz
 generalize hw1:((w.alloc (.cells c.cells.toArray 27)).alloc (.cells zero20.toArray 35))=w1 at *
 have hsz:w1.heap.size=w.heap.size+2:=by rw [←hw1];simp only [World.size_alloc]
 have HGR:=hid (great_any w1 c (hmm.same hw) hff)
 unfold GreatPost at HGR
 have HFE:=hid (fun (W:World) (hk:Same w W)=>fewQ W (fun _=>False) B cb l (hl.same hk) hn)
 have HNB:=hid (fun (W:World) (hk:Same w W)=>newB_any W c (hmm.same hk))
 have HNQ:=hid (fun (W:World) (hk:Same w W)=>newQ_any W c (hmm.same hk))
 have HM:=hid hm
 have HZ:=hid hz
 have HW:=hid hw
 have HSZ:=hid hsz
 have HL:=hid hl
 have HCM:=hid hmm
 have h03:w.heap.size<w1.heap.size:=by omega
 clear hm hz hw hsz hmm hff hl
 go_enter Tryz.func9,Tryz.ntmps9
 go_upto_region 1 with fail
 try simp only [zero20] at hw1
 try rw [hw1]
 clear hw1
 go_wp2_with (refine wpList_load_row rfl _ (.tmp 2) rfl w.heap.size rfl _ c.cells.toArray (0,0) _ HM.out Tryz.underlying27 rfl (by kernel_rfl) ?_)
 (with_reducible refine HGR.out.mono ?_)
 rintro e w2 ⟨b,rfl,hb2,hk2⟩
 have HK2:=hid hk2
 have HB2:=hid hb2
 have HM2:=hid (HM.out.keep hk2 (fun f=>f))
 have HZ2:=hid (HZ.out.keep hk2 (fun f=>f))
 have HW2:=hid (HW.out.then hk2)
 clear hk2 hb2
 cases b with
 | true =>
   go_wp2_with (refine wpList_store_row rfl _ (.tmp 5) (.tmp 22) rfl (w.heap.size+1) zero20.toArray rfl rfl _ _ HZ2.out (by kernel_rfl) rfl (one_toArray zero20_one) ?_)
   refine bodyPost_ret (results_mid rfl _ _ _ _ _ _ _ _ _ rfl rfl rfl (HZ2.out.row _) Tryz.underlying35 rfl (by kernel_rfl)) rfl ?_
   exact .inl ⟨rfl,HW2.out.trans (Keep.row _ _ _) (fun i hi e=>by have e2:i=w.heap.size+1:=e;omega)⟩
 | false =>
   cases hfw:fewB l with
   | false =>
     have HFW:=hid hfw
     clear hfw
     go_wp2_with (first
      | (go_at_call 26;(with_reducible refine (HFE.out _ HW2.out).mono ?_);rintro e w3 ⟨rfl,hk3⟩;rw [HFW.out];have HW3:=hid (HW2.out.then hk3);have HZ3:=hid (HZ2.out.keep hk3 (fun f=>f));clear hk3)
      | (refine wpList_store_row rfl _ (.tmp 5) (.tmp 22) rfl (w.heap.size+1) zero20.toArray rfl rfl _ _ HZ3.out (by kernel_rfl) rfl (one_toArray zero20_one) ?_))
     refine bodyPost_ret (results_mid rfl _ _ _ _ _ _ _ _ _ rfl rfl rfl (HZ3.out.row _) Tryz.underlying35 rfl (by kernel_rfl)) rfl ?_
     exact .inl ⟨rfl,HW3.out.trans (Keep.row _ _ _) (fun i hi e=>by have e2:i=w.heap.size+1:=e;omega)⟩
   | true =>
     have HFW:=hid hfw
     have hl40:l.length≤40∧∀ a∈l,fewA a=true:=by
      unfold fewB at hfw
      simp only [Bool.and_eq_true,decide_eq_true_eq,List.all_eq_true] at hfw
      exact ⟨hfw.2,hfw.1⟩
     have HL40:=hid hl40
     clear hfw hl40
     go_upto_region 3 with (go_at_call 26;(with_reducible refine (HFE.out _ HW2.out).mono ?_);rintro e w3 ⟨rfl,hk3⟩;rw [HFW.out];have HW3:=hid (HW2.out.then hk3);have HZ3:=hid (HZ2.out.keep hk3 (fun f=>f));have HM3:=hid (HM2.out.keep hk3 (fun f=>f));clear hk3)
     by_cases hv:vnum c=0
     ·have HV:=hid hv
      have HNB3:=hid (show Calls Tryz.prog 27 #[.agg c.cells.toArray] w3 (fun e w'=>∃ T p,e=.returned (.tuple #[.pointer (some ⟨p.x,0,none⟩),.int .i64 0])∧p.pt=newX c∧NewBt w3 w' T p) from (HNB.out w3 HW3.out).mono (fun e w' hh=>by
       rcases hh with hh | hh
       ·exact hh.2
       ·exact absurd hv hh.1))
      clear hv
      go_upto_region 4 with (first
       | (refine wpList_load_row rfl _ (.tmp 2) rfl w.heap.size rfl _ c.cells.toArray (0,0) _ HM3.out Tryz.underlying27 rfl (by kernel_rfl) ?_)
       | (go_at_call 27
          (with_reducible refine HNB3.out.mono ?_)
          rintro e w4 ⟨T0,p,rfl,hp4,hn4⟩
          have HP4:=hid hp4
          have HN4:=hid hn4
          have HM4:=hid (HM3.out.keep hn4.same (fun f=>f))
          have HZ4:=hid (HZ3.out.keep hn4.same (fun f=>f))
          have HW4:=hid (HW3.out.then hn4.same)
          clear hp4 hn4))
      have HNQ4:=hid (show Calls Tryz.prog 28 #[.agg c.cells.toArray] w4 (fun e w'=>∃ q:QS,e=.returned (.tuple #[.agg q.cells.toArray,.int .i64 0])∧RX w' (fun i=>i<w4.heap.size) q∧q.pt=newX c∧q.c=c∧Same w4 w') from (HNQ.out w4 HW4.out).mono (fun e w' hh=>by
       rcases hh with hh | hh
       ·exact hh.2
       ·exact absurd HV.out hh.1))
      go_upto_region 5 with (first
       | (refine wpList_load_row rfl _ (.tmp 2) rfl w.heap.size rfl _ c.cells.toArray (0,0) _ HM4.out Tryz.underlying27 rfl (by kernel_rfl) ?_)
       | (go_at_call 28
          (with_reducible refine HNQ4.out.mono ?_)
          rintro e w5 ⟨q,rfl,hr5,hq5,hc5,hk5⟩
          have HR5:=hid hr5
          have HQ5:=hid hq5
          have HC5:=hid hc5
          have HK5:=hid hk5
          have HZN:=hid (Blk.made w5 35 #[.int .i64 0,.slice none 0 0,.slice none 0 0,.slice none 0 0,.slice none 0 0,.int .i64 0,.int .i64 0,.int .i64 0,.int .i64 0,.int .i64 0,.int .i64 0,.int .i64 0,.int .i64 0,.int .i64 0,.int .i64 0,.slice none 0 0,.slice none 0 0,.slice none 0 0,.slice none 0 0,.slice none 0 0])
          clear hr5 hq5 hc5 hk5)
       | (refine wpList_store_row rfl _ (.tmp 9) (.tmp 31) rfl w5.heap.size q.cells.toArray rfl rfl _ _ HZN.out (by kernel_rfl) rfl (one_toArray (q_one q)) ?_))
      have hL6:Blk ((w5.alloc (.cells #[.int .i64 0,.slice none 0 0,.slice none 0 0,.slice none 0 0,.slice none 0 0,.int .i64 0,.int .i64 0,.int .i64 0,.int .i64 0,.int .i64 0,.int .i64 0,.int .i64 0,.int .i64 0,.int .i64 0,.int .i64 0,.slice none 0 0,.slice none 0 0,.slice none 0 0,.slice none 0 0,.slice none 0 0] 35)).setRow w5.heap.size q.cells.toArray) w5.heap.size 35 q.cells.toArray:=HZN.out.row _
      have hk6:Same w5 ((w5.alloc (.cells #[.int .i64 0,.slice none 0 0,.slice none 0 0,.slice none 0 0,.slice none 0 0,.int .i64 0,.int .i64 0,.int .i64 0,.int .i64 0,.int .i64 0,.int .i64 0,.int .i64 0,.int .i64 0,.int .i64 0,.int .i64 0,.slice none 0 0,.slice none 0 0,.slice none 0 0,.slice none 0 0,.slice none 0 0] 35)).setRow w5.heap.size q.cells.toArray):=((Keep.refl (fun _=>False) w5).alloc _).trans (Keep.row _ _ _) (fun j hj e=>by have e2:j=w5.heap.size:=e;omega)
      obtain ⟨gy,hgy⟩:∃ g,g=w5.heap.size:=⟨_,rfl⟩
      have h345:w3.heap.size≤w4.heap.size∧w4.heap.size≤w5.heap.size:=⟨HN4.out.same.size,HK5.out.size⟩
      have h13:w1.heap.size≤w3.heap.size:=by have h1:=HK2.out.size;have h2:=HZ3.out.lt;have h3:=HZ2.out.lt;have h4:=HSZ.out;omega
      rw [←hgy] at hL6 hk6 ⊢
      generalize hw6:((w5.alloc (.cells #[.int .i64 0,.slice none 0 0,.slice none 0 0,.slice none 0 0,.slice none 0 0,.int .i64 0,.int .i64 0,.int .i64 0,.int .i64 0,.int .i64 0,.int .i64 0,.int .i64 0,.int .i64 0,.int .i64 0,.int .i64 0,.slice none 0 0,.slice none 0 0,.slice none 0 0,.slice none 0 0,.slice none 0 0] 35)).setRow gy q.cells.toArray)=w6 at *
      clear hw6
      have hk46:=HK5.out.then hk6
      have hs2:=HSZ.out
      have hTl:=HN4.out.px.lt
      have hTn:=HN4.out.new
      obtain ⟨T,hT⟩:∃ T:Tags,T=fun i=>if i=w.heap.size+1∨i=gy then some .rsv else T0 i:=⟨_,rfl⟩
      have hTof:∀ i,T0 i≠none→T i=T0 i:=fun i hi=>by
       have h1:=hTn i hi
       have h2:=hTl i hi
       rw [hT]
       show (if _ then _ else _)=_
       rw [if_neg (by omega)]
      have hTav:∀ i,T i≠none→i=w.heap.size+1∨i=gy∨T0 i≠none:=fun i hi=>by
       rw [hT] at hi
       by_cases e:i=w.heap.size+1∨i=gy
       ·exact e.elim .inl (fun e=>.inr (.inl e))
       ·have hi:(if i=w.heap.size+1∨i=gy then some Tag.rsv else T0 i)≠none:=hi
        rw [if_neg e] at hi;exact .inr (.inr hi)
      have hplen:p.R=[]∧p.out=[]:=by
       have h1:=congrArg XS.L HP4.out
       have h2:=congrArg XS.out HP4.out
       exact ⟨List.map_eq_nil_iff.1 h1,List.map_eq_nil_iff.1 h2⟩
      have hpx:=(HN4.out.px.same hk46).retag hTof hplen.1 hplen.2 ((HN4.out.fr.wide (Av':=fun i=>T i≠none) (fun i hi ht=>by
       rcases hTav i ht with e | e | e
       ·exact .inl (by omega)
       ·omega
       ·exact .inr e)).same hk46) (fun i hi=>by
       rcases hTav i hi with e | e | e
       ·have:=hL6.lt;omega
       ·have:=hL6.lt;omega
       ·exact Nat.lt_of_lt_of_le (hTl i e) hk46.size)
      have hrx:RX w6 (fun i=>T i≠none) q:=(HR5.out.wide (Av':=fun i=>T i≠none) (fun i hi ht=>by
       rcases hTav i ht with e | e | e
       ·show i<w4.heap.size;omega
       ·omega
       ·exact hTl i e)).same hk6
      have hnew:∀ i,T i≠none→w.heap.size≤i:=fun i hi=>by
       rcases hTav i hi with e | e | e
       ·omega
       ·omega
       ·have:=hTn i e;omega
      have hqn:q.R=[]∧q.out=[]∧q.ev=[]:=by
       have h1:=congrArg XS.L HQ5.out
       have h2:=congrArg XS.out HQ5.out
       exact ⟨List.map_eq_nil_iff.1 h1,List.map_eq_nil_iff.1 h2,congrArg XS.ev HQ5.out⟩
      have hjj:JJ w6 T p q c 0:=⟨hpx,hrx,HP4.out.trans HQ5.out.symm,by rw [HQ5.out];exact newX_ok HV.out,by rw [HQ5.out];exact newX_own c,HC5.out,(HCM.out.dis.wide (Av':=fun i=>T i≠none) (fun i hi ht=>by have:=hnew i ht;omega)).same ((HW4.out.then HK5.out).then hk6),by have:=(HB2.out (by first | rfl | trivial)).1;omega,by rw [hqn.1,hqn.2.1,hqn.2.2];simp⟩
      have HP0:=hid (show PLY w w6 T p q c l 0 p.x gy from ⟨hjj,rfl,HQ5.out,by rw [hT];exact if_pos (.inl rfl),by rw [hT];exact if_pos (.inr rfl),by omega,(HZ4.out.keep HK5.out (fun f=>f)).keep hk6 (fun f=>f),hL6,hnew,(HW4.out.then HK5.out).then hk6⟩)
      have HAL:=hid (fun (W:World) (Tx:Tags) (hk:Same w W) (hx:∀ i,Tx i≠none→w.heap.size≤i)=>show ATs W (fun i=>Tx i≠none) B l from (HL.out.wide (Av':=fun i=>Tx i≠none) (fun i hi ht=>by have:=hx i ht;omega)).same hk)
      obtain ⟨x0,hx0⟩:∃ x0,x0=p.x:=⟨_,rfl⟩
      rw [←hx0] at HP0 ⊢
      clear hx0 hjj hqn hnew hrx hpx hplen hTav hTof hT hTn hTl hs2 hk46 hk6 hL6 hgy h345 h13 HN4 HR5 HNQ4 HNB3 HZN HM4 HZ4
      go_wp2_with fail
      go_loopw [11,49] (fun ok i wr=>∃ (j:Nat) (T:Tags) (p:PS) (q:QS),j≤l.length∧i=.int .i64 j∧ok=.bool true∧Hid (PLY w wr T p q c l j x0 gy)) (fun _ i _=>l.length - (RowKit.intOf i).toNat)
      case atStart=>exact ⟨0,T,p,q,Nat.zero_le _,rfl,rfl,HP0⟩
      case round =>
       obtain ⟨j,T3,p3,q3,hj,rfl,rfl,HI⟩:=hrel
       have hj0:(0:Int)≤(j:Int):=Int.natCast_nonneg _
       have hjb:j≤40:=by have:=HL40.out.1;omega
       by_cases hjn:j<l.length
       ·have hj1:(j:Int)<(l.length:Int):=by omega
        obtain ⟨a,ha⟩:=get_some hjn
        have hal:=HAL.out wr T3 HI.out.same HI.out.new
        obtain ⟨b1,o1,hB1,_,_,hr1⟩:=hal.sl.at_ (by omega)
        have HR1:=hid (range_at hr1 ha)
        have HAT:=hid (hal.el a (List.mem_of_getElem? ha))
        have HFA:=hid (HL40.out.2 a (List.mem_of_getElem? ha))
        have HRUN:=hid (runX_take (X:=newX c) ha)
        subst hB1
        have HZA:=hid (Blk.made wr 63 #[.int .i64 0,.int .i64 0,.slice none 0 0,.int .i64 0,.int .i64 0,.int .i64 0,.int .i64 0,.int .i64 0,.int .i64 0,.int .i64 0,.int .i64 0,.slice none 0 0,.int .i64 0,.int .i64 0,.slice none 0 0,.int .i64 0])
        clear ha hal hr1 HP0
        go_upto_region 13 with (first
         | (refine wpList_load_mid rfl _ (.tmp 51) rfl b1 (o1+j * 16) rfl a.cells _ HR1.out Tryz.underlying63 rfl (by kernel_rfl) ?_)
         | (refine wpList_store_row rfl _ (.tmp 13) (.tmp 52) rfl wr.heap.size a.cells.toArray rfl rfl _ _ HZA.out (by kernel_rfl) rfl (one_toArray (at_one a)) ?_))
        have hL3:Blk ((wr.alloc (.cells #[.int .i64 0,.int .i64 0,.slice none 0 0,.int .i64 0,.int .i64 0,.int .i64 0,.int .i64 0,.int .i64 0,.int .i64 0,.int .i64 0,.int .i64 0,.slice none 0 0,.int .i64 0,.int .i64 0,.slice none 0 0,.int .i64 0] 63)).setRow wr.heap.size a.cells.toArray) wr.heap.size 63 a.cells.toArray:=HZA.out.row _
        have hk3:Same wr ((wr.alloc (.cells #[.int .i64 0,.int .i64 0,.slice none 0 0,.int .i64 0,.int .i64 0,.int .i64 0,.int .i64 0,.int .i64 0,.int .i64 0,.int .i64 0,.int .i64 0,.slice none 0 0,.int .i64 0,.int .i64 0,.slice none 0 0,.int .i64 0] 63)).setRow wr.heap.size a.cells.toArray):=((Keep.refl (fun _=>False) wr).alloc _).trans (Keep.row _ _ _) (fun j hj e=>by have e2:j=wr.heap.size:=e;omega)
        obtain ⟨ga,hga⟩:∃ g,g=wr.heap.size:=⟨_,rfl⟩
        rw [←hga] at hL3 hk3 ⊢
        have HLA:=hid hL3
        have HI3:=hid (HI.out.keep hk3)
        have HAT3:=hid (HAT.out.same hk3)
        clear hga hL3 hk3 HZA HR1
        generalize ((wr.alloc (.cells #[.int .i64 0,.int .i64 0,.slice none 0 0,.int .i64 0,.int .i64 0,.int .i64 0,.int .i64 0,.int .i64 0,.int .i64 0,.int .i64 0,.int .i64 0,.slice none 0 0,.int .i64 0,.int .i64 0,.slice none 0 0,.int .i64 0] 63)).setRow ga a.cells.toArray)=wx at *
        have HDO:=hid (doJ HI3.out.jj (by omega) a HAT3.out HFA.out)
        unfold DoP at HDO
        rw [HI3.out.px] at HDO
        go_upto_region 15 with (first
         | (refine wpList_load_row rfl _ (.tmp 9) rfl gy rfl _ q3.cells.toArray (0,0) _ HI3.out.blk Tryz.underlying35 rfl (by kernel_rfl) ?_)
         | (refine wpList_load_row rfl _ (.tmp 13) rfl ga rfl _ a.cells.toArray (0,0) _ HLA.out Tryz.underlying63 rfl (by kernel_rfl) ?_)
         | (go_at_call 29
            (with_reducible refine HDO.out.mono ?_)
            rintro e w8 ⟨T8,p8,q8,S8,rfl,hj8,hx8,hq8,m8,hS8⟩
            have HJ8:=hid hj8
            have HX8:=hid hx8
            have HQ8:=hid hq8
            have HMV8:=hid m8
            have HS8:=hid hS8
            have HY8:=hid (HI3.out.blk.keep m8.keep (fun h=>Tags.rsv_off HI3.out.ty (hS8 _ h)))
            have HZ8:=hid (HI3.out.res.keep m8.keep (fun h=>Tags.rsv_off HI3.out.t1 (hS8 _ h)))
            clear hj8 hx8 hq8 m8 hS8)
         | (refine wpList_store_row rfl _ (.tmp 9) (.tmp 58) rfl gy q8.cells.toArray rfl rfl _ _ HY8.out (by kernel_rfl) rfl (one_toArray (q_one q8)) ?_))
        have HNX:=hid (show PLY w (w8.setRow gy q8.cells.toArray) T8 p8 q8 c l (j+1) x0 gy from by
         have hkr:Keep (fun i=>i=gy) w8 (w8.setRow gy q8.cells.toArray):=Keep.row _ _ _
         have hty:T8 gy=some .rsv:=(HMV8.out.old _ HI3.out.blk.lt).trans HI3.out.ty
         have ht1:T8 (w.heap.size+1)=some .rsv:=(HMV8.out.old _ HI3.out.res.lt).trans HI3.out.t1
         have hne:=HI3.out.ne
         have hgw:w.heap.size≤gy:=HI3.out.new gy (by rw [HI3.out.ty];exact fun h=>by cases h)
         refine ⟨HJ8.out.mvR (Mv.put HJ8.out.px.lt hkr) (fun i e=>by have e2:i=gy:=e;rw [e2];exact hty),HX8.out,?_,ht1,hty,hne,HZ8.out.keep hkr (fun e=>hne (show w.heap.size+1=gy from e).symm),HY8.out.row _,fun i hi=>?_,?_⟩
         ·rw [HQ8.out,HI3.out.pt,HRUN.out]
         ·rcases HMV8.out.new i hi with h | h
          ·exact HI3.out.new i h
          ·exact Nat.le_trans HI3.out.same.size h
         ·exact (HI3.out.same.trans HMV8.out.keep (fun i hi hs=>by have:=HI3.out.new i (HS8.out i hs).1;omega)).trans hkr (fun i hi e=>by have e2:i=gy:=e;omega))
        go_wp2_with fail
        go_roundw
        case rel=>first | exact ⟨j+1,T8,p8,q8,by omega,by go_num,rfl,HNX⟩ | ((repeat apply Exists.intro);refine And.intro ?_ rfl;exact ⟨j+1,T8,p8,q8,by omega,by go_num,rfl,HNX⟩)
        case measure=>simp [RowKit.intOf];omega
       ·obtain rfl:j=l.length:=by omega
        clear HP0
        go_upto_region 17 with fail
        refine wp_region_held_drew (S:=fun W=>Blk W gy 35 q3.cells.toArray) (by kernel_rfl) HI.out.blk (fun hHeld=>?_)
        refine tk 0 ?_
        refine tL 1 (.tmp 9) (gy) 35 (q3.cells.toArray) (fun W hS=>hS) Tryz.underlying35 ?_
        refine tk 2 ?_
        refine tk 3 ?_
        have hkd:Same wr wr.drew:=(Keep.refl (fun _=>False) wr).drew
        have HId:=hid (HI.out.keep hkd)
        clear hHeld hkd
        generalize wr.drew=wd at *
        refine rd1 4 (fun K hK=>?_)
        refine store_step rfl _ (.tmp 5) (.tmp 66) rfl (w.heap.size+1) q3.cells.toArray rfl rfl _ _ HId.out.res (by kernel_rfl) rfl (one_toArray (q_one q3)) ?_
        have hks:Keep (fun i=>i=w.heap.size+1) wd (wd.setRow (w.heap.size+1) q3.cells.toArray):=Keep.row _ _ _
        have HZR:=hid (HId.out.res.row q3.cells.toArray)
        have HF:=hid (show PlP w c l (.returned (.tuple #[.pointer (some ⟨p3.x,0,none⟩),.agg q3.cells.toArray,.bool true])) (wd.setRow (w.heap.size+1) q3.cells.toArray) from
         .inr ⟨T3,p3,q3,rfl,HId.out.jj.mvR (Mv.put HId.out.jj.px.lt hks) (fun i e=>by have e2:i=w.heap.size+1:=e;rw [e2];exact HId.out.t1),by rw [HId.out.pt,List.take_length],HId.out.new,HId.out.same.trans hks (fun i hi e=>by have e2:i=w.heap.size+1:=e;omega),HL40.out.1,HV.out,HL40.out.2⟩)
        rw [HId.out.px] at HF
        refine hK.out _ _ (HId.out.blk.keep hks (fun e=>HId.out.ne e)) (fun hHeld5=>?_)
        clear hK K hks
        refine pput ?_
        refine tk 5 ?_
        refine wpAnyH_done (by kernel_rfl) ?_ _
        go_wp2_with fail
        refine bodyPost_ret (results_mid rfl _ _ _ _ _ _ _ _ _ rfl rfl rfl HZR.out Tryz.underlying35 rfl (by kernel_rfl)) rfl ?_
        exact HF.out
     ·have HV:=hid hv
      have HNB3:=hid (show Calls Tryz.prog 27 #[.agg c.cells.toArray] w3 (fun e w'=>e=.returned (.tuple #[.pointer none,.int .i64 1])∧Same w3 w') from (HNB.out w3 HW3.out).mono (fun e w' hh=>by
       rcases hh with hh | hh
       ·exact absurd hh.1 hv
       ·exact hh.2))
      clear hv
      go_upto_region 4 with (first
       | (refine wpList_load_row rfl _ (.tmp 2) rfl w.heap.size rfl _ c.cells.toArray (0,0) _ HM3.out Tryz.underlying27 rfl (by kernel_rfl) ?_)
       | (go_at_call 27
          (with_reducible refine HNB3.out.mono ?_)
          rintro e w4 ⟨rfl,hk4⟩
          have HM4:=hid (HM3.out.keep hk4 (fun f=>f))
          have HZ4:=hid (HZ3.out.keep hk4 (fun f=>f))
          have HW4:=hid (HW3.out.then hk4)
          clear hk4))
      have HNQ4:=hid (show Calls Tryz.prog 28 #[.agg c.cells.toArray] w4 (fun e w'=>e=.returned (.tuple #[.agg zero20.toArray,.int .i64 1])∧Same w4 w') from (HNQ.out w4 HW4.out).mono (fun e w' hh=>by
       rcases hh with hh | hh
       ·exact absurd hh.1 HV.out
       ·exact hh.2))
      go_upto_region 5 with (first
       | (refine wpList_load_row rfl _ (.tmp 2) rfl w.heap.size rfl _ c.cells.toArray (0,0) _ HM4.out Tryz.underlying27 rfl (by kernel_rfl) ?_)
       | (go_at_call 28
          (with_reducible refine HNQ4.out.mono ?_)
          rintro e w5 ⟨rfl,hk5⟩
          have HK5:=hid hk5
          have HZN:=hid (Blk.made w5 35 #[.int .i64 0,.slice none 0 0,.slice none 0 0,.slice none 0 0,.slice none 0 0,.int .i64 0,.int .i64 0,.int .i64 0,.int .i64 0,.int .i64 0,.int .i64 0,.int .i64 0,.int .i64 0,.int .i64 0,.int .i64 0,.slice none 0 0,.slice none 0 0,.slice none 0 0,.slice none 0 0,.slice none 0 0])
          clear hk5)
       | (refine wpList_store_row rfl _ (.tmp 9) (.tmp 31) rfl w5.heap.size zero20.toArray rfl rfl _ _ HZN.out (by kernel_rfl) rfl (one_toArray zero20_one) ?_))
      have hL6:Blk ((w5.alloc (.cells #[.int .i64 0,.slice none 0 0,.slice none 0 0,.slice none 0 0,.slice none 0 0,.int .i64 0,.int .i64 0,.int .i64 0,.int .i64 0,.int .i64 0,.int .i64 0,.int .i64 0,.int .i64 0,.int .i64 0,.int .i64 0,.slice none 0 0,.slice none 0 0,.slice none 0 0,.slice none 0 0,.slice none 0 0] 35)).setRow w5.heap.size zero20.toArray) w5.heap.size 35 zero20.toArray:=HZN.out.row _
      have hk6:Same w5 ((w5.alloc (.cells #[.int .i64 0,.slice none 0 0,.slice none 0 0,.slice none 0 0,.slice none 0 0,.int .i64 0,.int .i64 0,.int .i64 0,.int .i64 0,.int .i64 0,.int .i64 0,.int .i64 0,.int .i64 0,.int .i64 0,.int .i64 0,.slice none 0 0,.slice none 0 0,.slice none 0 0,.slice none 0 0,.slice none 0 0] 35)).setRow w5.heap.size zero20.toArray):=((Keep.refl (fun _=>False) w5).alloc _).trans (Keep.row _ _ _) (fun j hj e=>by have e2:j=w5.heap.size:=e;omega)
      obtain ⟨gy,hgy⟩:∃ g,g=w5.heap.size:=⟨_,rfl⟩
      have h45:=HK5.out.size
      have hz4:=HZ4.out.lt
      rw [←hgy] at hL6 hk6 ⊢
      have HL6:=hid hL6
      have HZ6:=hid ((HZ4.out.keep HK5.out (fun f=>f)).keep hk6 (fun f=>f))
      have HW6:=hid ((HW4.out.then HK5.out).then hk6)
      have HGY:=hid (show gy≠w.heap.size+1 by omega)
      clear hL6 hk6 hgy h45 hz4
      generalize ((w5.alloc (.cells #[.int .i64 0,.slice none 0 0,.slice none 0 0,.slice none 0 0,.slice none 0 0,.int .i64 0,.int .i64 0,.int .i64 0,.int .i64 0,.int .i64 0,.int .i64 0,.int .i64 0,.int .i64 0,.int .i64 0,.int .i64 0,.slice none 0 0,.slice none 0 0,.slice none 0 0,.slice none 0 0,.slice none 0 0] 35)).setRow gy zero20.toArray)=w6 at *
      go_upto_region 8 with fail
      refine wp_region_held_drew (S:=fun W=>Blk W gy 35 zero20.toArray) (by kernel_rfl) HL6.out (fun hHeld=>?_)
      refine tL 0 (.tmp 9) (gy) 35 (zero20.toArray) (fun W hS=>hS) Tryz.underlying35 ?_
      refine tk 1 ?_
      have hkd:Same w6 w6.drew:=(Keep.refl (fun _=>False) w6).drew
      have HLd:=hid (HL6.out.keep hkd (fun f=>f))
      have HZd:=hid (HZ6.out.keep hkd (fun f=>f))
      have HWd:=hid (HW6.out.then hkd)
      clear hHeld hkd
      generalize w6.drew=wd at *
      refine rd1 2 (fun K hK=>?_)
      refine store_step rfl _ (.tmp 5) (.tmp 46) rfl (w.heap.size+1) zero20.toArray rfl rfl _ _ HZd.out (by kernel_rfl) rfl (one_toArray zero20_one) ?_
      have hks:Keep (fun i=>i=w.heap.size+1) wd (wd.setRow (w.heap.size+1) zero20.toArray):=Keep.row _ _ _
      have HZR:=hid (HZd.out.row zero20.toArray)
      have HF:=hid (show PlP w c l (.returned (.tuple #[.pointer none,.agg zero20.toArray,.bool true])) (wd.setRow (w.heap.size+1) zero20.toArray) from .inl ⟨rfl,HWd.out.trans hks (fun i hi e=>by have e2:i=w.heap.size+1:=e;omega)⟩)
      refine hK.out _ _ (HLd.out.keep hks (fun e=>HGY.out e)) (fun hHeld5=>?_)
      clear hK K hks
      refine pput ?_
      refine tk 3 ?_
      refine wpAnyH_done (by kernel_rfl) ?_ _
      go_wp2_with fail
      refine bodyPost_ret (results_mid rfl _ _ _ _ _ _ _ _ _ rfl rfl rfl HZR.out Tryz.underlying35 rfl (by kernel_rfl)) rfl ?_
      exact HF.out
end Go.Proofs.YtbjddfiledoaoaaGreat

import Derived.Test.YtbjddfiledoaoaaGreatZEp
import Derived.Test.YtbjddfiledoaoaaGreatZP
import Derived.Test.YtbjddfiledoaoaaGreatYL
namespace Go.Proofs.YtbjddfiledoaoaaGreat
open Go.RowKit
theorem recv_stale {X:XS} {m:Nt} {f t now:Int} (hk:m.k≠8) (h:∀ k l,idx X.L.length m.call=some k→X.L[k]? = some l→l.s.st=5∨l.s.cen≠m.c∨l.s.ep≠m.e):X.recv f t (encM m) now=X:=by
 unfold XS.recv
 split
 ·split
  ·rename_i he
   by_cases hv:vM m=true
   ·rw [(dec_enc hv).1]
    unfold XS.hear
    rw [if_neg hk]
    split
    ·rfl
    ·split
     ·rfl
     ·rename_i x k hk2 x2 l hl
      rw [if_pos (h _ _ hk2 hl)]
   ·rw [encM_no hv,err_nil] at he
    exact absurd he.1 (by decide)
  ·rfl
 ·rfl
theorem emptyX {w:World} {T:Tags} {p:PS} (h:PX w T p) (h0:p.out=[]) (h1:p.ev=[]):Calls Tryz.prog 12 #[.pointer (some ⟨p.x,0,none⟩)] w (fun e w'=>∃ OV ovc,e=.returned (.slice OV 0 ovc) ∧
 Calls Tryz.prog 14 #[.pointer (some ⟨p.x,0,none⟩)] w' (fun e w2=>∃ EV evc,e=.returned (.slice EV 0 evc)∧Keep (fun i=>i=p.x) w' w2)∧Keep (fun i=>i=p.x) w w'):=by
 obtain ⟨OV,ovc,hov⟩:=h.out.own.shape
 obtain ⟨EV,evc,hev⟩:=h.ev.own.shape
 have hn:=h.noOut
 have he:=hn.1.noEv
 refine (outboxX h).mono (fun e w' hh=>?_)
 obtain ⟨rfl,rfl⟩:=hh
 refine ⟨OV,ovc,by rw [hov,h0];rfl,?_,hn.2.keep⟩
 refine (eventsX hn.1).mono (fun e w2 hh=>?_)
 obtain ⟨rfl,rfl⟩:=hh
 exact ⟨EV,evc,by show Ending.returned p.evv=_;rw [hev,h1];rfl,he.2.keep⟩
set_option maxHeartbeats 8000000 in
set_option maxRecDepth 100000 in
theorem stale_walk (w:World) (B:Option Addr) (cb:Nat) (l:List AT) (hl:ATs w (fun _=>False) B l) (hn:l.length≤maxLen) (m:Nt) (NA:Option Addr) (nc:Nat) (hN:Sl w (fun _=>False) 1 NA m.body.length (bcells m.body)) (now:Int):Calls Tryz.prog 4 #[.slice B l.length cb,.agg #[.int .i64 m.k,.int .i64 m.call,.int .i64 m.d,.int .i64 m.c,.int .i64 m.e,.int .i64 m.n,.slice NA m.body.length nc],.int .i64 now] w (fun e w'=>e=.returned (.bool true)∧Same w w'):=by
 have hm:=Blk.made w 46 #[.int .i64 m.k,.int .i64 m.call,.int .i64 m.d,.int .i64 m.c,.int .i64 m.e,.int .i64 m.n,.slice NA m.body.length nc]
 have hw:Same w (w.alloc (.cells #[.int .i64 m.k,.int .i64 m.call,.int .i64 m.d,.int .i64 m.c,.int .i64 m.e,.int .i64 m.n,.slice NA m.body.length nc] 46)):=(Keep.refl _ _).alloc _
 have hsz:(w.alloc (.cells #[.int .i64 m.k,.int .i64 m.call,.int .i64 m.d,.int .i64 m.c,.int .i64 m.e,.int .i64 m.n,.slice NA m.body.length nc] 46)).heap.size=w.heap.size+1:=World.size_alloc _ _
 generalize hw1:(w.alloc (.cells #[.int .i64 m.k,.int .i64 m.call,.int .i64 m.d,.int .i64 m.c,.int .i64 m.e,.int .i64 m.n,.slice NA m.body.length nc] 46))=w1 at *
 have HTW:=hid (twoQ w1)
 unfold TwoPost at HTW
 have HPL:=hid (fun W g (hk:Same w1 W) (hcm:CM W (twoC g))=>playedU W (twoC g) hcm (two_few g) B cb l ((hl.same hw).same hk) hn)
 unfold PlU at HPL
 have HAW:=hid awakeQ
 have HM:=hid hm
 have HW:=hid hw
 have HSZ:=hid hsz
 have HNB:=hid (fun W (hk:Same w1 W)=>(hN.same hw).same hk)
 clear hm hl hn hw hN hsz
 go_enter Tryz.func4,Tryz.ntmps4
 go_upto_region 1 with fail
 try rw [hw1]
 clear hw1
 go_upto_region 2 with (first
  | (go_at_call 15;(with_reducible refine HTW.out.mono ?_);rintro e wt ⟨g,rfl,hcm,hkt⟩;have HCM:=hid hcm;have HKT:=hid hkt;clear hcm hkt)
  | (go_at_call 9
     (with_reducible refine (HPL.out _ _ HKT.out HCM.out).mono ?_)
     rintro e w2 ⟨P,q,rfl,hk2,hc2⟩
     have HK2:=hid hk2
     have HC2:=hid hc2
     have HZN:=hid (Blk.made w2 35 #[.int .i64 0,.slice none 0 0,.slice none 0 0,.slice none 0 0,.slice none 0 0,.int .i64 0,.int .i64 0,.int .i64 0,.int .i64 0,.int .i64 0,.int .i64 0,.int .i64 0,.int .i64 0,.int .i64 0,.int .i64 0,.slice none 0 0,.slice none 0 0,.slice none 0 0,.slice none 0 0,.slice none 0 0])
     clear hk2 hc2)
  | (refine wpList_store_row rfl _ (.tmp 8) (.tmp 16) rfl w2.heap.size q.cells.toArray rfl rfl _ _ HZN.out (by kernel_rfl) rfl (one_toArray (q_one q)) ?_))
 have hL3:Blk ((w2.alloc (.cells #[.int .i64 0,.slice none 0 0,.slice none 0 0,.slice none 0 0,.slice none 0 0,.int .i64 0,.int .i64 0,.int .i64 0,.int .i64 0,.int .i64 0,.int .i64 0,.int .i64 0,.int .i64 0,.int .i64 0,.int .i64 0,.slice none 0 0,.slice none 0 0,.slice none 0 0,.slice none 0 0,.slice none 0 0] 35)).setRow w2.heap.size q.cells.toArray) w2.heap.size 35 q.cells.toArray:=HZN.out.row _
 have hk3:Same w2 ((w2.alloc (.cells #[.int .i64 0,.slice none 0 0,.slice none 0 0,.slice none 0 0,.slice none 0 0,.int .i64 0,.int .i64 0,.int .i64 0,.int .i64 0,.int .i64 0,.int .i64 0,.int .i64 0,.int .i64 0,.int .i64 0,.int .i64 0,.slice none 0 0,.slice none 0 0,.slice none 0 0,.slice none 0 0,.slice none 0 0] 35)).setRow w2.heap.size q.cells.toArray):=((Keep.refl (fun _=>False) w2).alloc _).trans (Keep.row _ _ _) (fun j hj e=>by have e2:j=w2.heap.size:=e;omega)
 obtain ⟨gy,hgy⟩:∃ g,g=w2.heap.size:=⟨_,rfl⟩
 rw [←hgy] at hL3 hk3 ⊢
 have HL:=hid hL3
 have HK3:=hid hk3
 have HGY:=hid hgy
 clear hL3 hk3 hgy HZN HPL HTW
 generalize ((w2.alloc (.cells #[.int .i64 0,.slice none 0 0,.slice none 0 0,.slice none 0 0,.slice none 0 0,.int .i64 0,.int .i64 0,.int .i64 0,.int .i64 0,.int .i64 0,.int .i64 0,.int .i64 0,.int .i64 0,.int .i64 0,.int .i64 0,.slice none 0 0,.slice none 0 0,.slice none 0 0,.slice none 0 0,.slice none 0 0] 35)).setRow gy q.cells.toArray)=w3 at *
 have HK13:=hid ((HKT.out.then HK2.out).then HK3.out)
 have HM3:=hid (HM.out.keep HK13.out (fun f=>f))
 have q6:w3.cell? ⟨w.heap.size,6,none⟩=some (.slice NA m.body.length nc):=HM3.out.at_ 6
 have q0:w3.cell? ⟨w.heap.size,0,none⟩=some (.int .i64 m.k):=HM3.out.at_ 0
 have hc2:=HC2.out
 clear HC2
 rcases hc2 with rfl | ⟨T,p,rfl,hj,hq,hnew,h40,hv,hfw⟩
 ·go_wp2_with (go_at_call 10;(with_reducible refine (HAW.out _).mono ?_);rintro e w4 ⟨rfl,hk4⟩;have HK4:=hid hk4;clear hk4)
  go_ret
  exact ⟨rfl,(HW.out.then HK13.out).then HK4.out⟩
 ·by_cases hb2:m.body.length≤200
  case neg =>
   have db:decide ((200:Int)<(m.body.length:Int))=true:=decide_eq_true (by omega)
   go_wp2_with (go_at_call 10;(with_reducible refine (HAW.out _).mono ?_);rintro e w4 ⟨rfl,hk4⟩;have HK4:=hid hk4;clear hk4)
   go_ret
   exact ⟨rfl,(HW.out.then HK13.out).then HK4.out⟩
  have db:decide ((200:Int)<(m.body.length:Int))=false:=decide_eq_false (by omega)
  by_cases hk8:m.k=8
  ·have dk8:(m.k == 8)=true:=by simpa using hk8
   clear hk8
   go_wp2_with (go_at_call 10;(with_reducible refine (HAW.out _).mono ?_);rintro e w4 ⟨rfl,hk4⟩;have HK4:=hid hk4;clear hk4)
   go_ret
   exact ⟨rfl,(HW.out.then HK13.out).then HK4.out⟩
  have dk8:(m.k == 8)=false:=by simpa using hk8
  have HK8:=hid hk8
  have HB2:=hid hb2
  clear hk8 hb2
  have HJ:=hid (hj.same HK3.out)
  have HTN:=hid (fun i (hi:T i≠none)=>And.intro (hnew i hi) (hj.px.lt i hi))
  have HNW:=hid (show w1.heap.size≤wt.heap.size from HKT.out.size)
  have HNG:=hid (show T gy=none from by
   cases ht:T gy with
   | none=>rfl
   | some t =>
     have h1:=(HTN.out gy (by rw [ht];exact fun h=>by cases h)).2
     have h2:=HGY.out
     omega)
  have HNM:=hid (show T w.heap.size=none from by
   cases ht:T w.heap.size with
   | none=>rfl
   | some t =>
     have h1:=(HTN.out w.heap.size (by rw [ht];exact fun h=>by cases h)).1
     have h2:=HNW.out
     have h3:=HSZ.out
     omega)
  have HLN:=hid (show q.R.length≤40∧q.out.length≤4000∧q.ev.length≤4000 from by have h2:=HJ.out.n;omega)
  have HCN:=hid (show q.pt.cen=2 from by rw [show q.pt.cen=q.c.cen from rfl,HJ.out.cfg];rfl)
  have HFI:=hid (fun W=>findQ W q (by have:=HLN.out;omega) m.call)
  have q1:w3.cell? ⟨w.heap.size,1,none⟩=some (.int .i64 m.call):=HM3.out.at_ 1
  clear hj hq hnew h40 hv hfw
  go_upto_region 5 with (first
   | (refine wpList_load_row rfl _ (.tmp 8) rfl gy rfl _ q.cells.toArray (0,0) _ HL.out Tryz.underlying35 rfl (by kernel_rfl) ?_)
   | (go_at_call 16;(with_reducible refine (HFI.out _).mono ?_);rintro e w4 ⟨rfl,hk4⟩;have HK4:=hid hk4;clear hk4))
  clear HFI q0 q1 q6
  have HM4:=hid (HM3.out.keep HK4.out (fun f=>f))
  have HL4:=hid (HL.out.keep HK4.out (fun f=>f))
  have HJ4:=hid (HJ.out.same HK4.out)
  obtain ⟨fi,hfi⟩:∃ fi,fi=findI q.R.length m.call:=⟨_,rfl⟩
  rw [←hfi]
  have HFI:=hid hfi
  clear hfi
  go_cut [74] from 39 to 74 (fun u w'=>∃ g:Bool,u=.bool g∧Hid ((g=true↔∃ k x,idx q.R.length m.call=some k∧q.R[k]? = some x∧x.s.cen=m.c∧x.s.ep=m.e∧x.s.st≠5)∧Same w3 w'))
  case first =>
   cases hi:idx q.R.length m.call with
   | none =>
     have hfi:fi = -1:=by rw [HFI.out];unfold findI;rw [hi]
     subst hfi
     have HII:=hid hi
     clear hi
     refine wp_region_held_drew (S:=fun W=>True) (by kernel_rfl) trivial (fun hHeld=>?_)
     refine tk 0 ?_
     refine tk 1 ?_
     refine tk 2 ?_
     refine tu 3 ?_
     refine tu 4 ?_
     refine tu 5 ?_
     refine tu 6 ?_
     refine tu 7 ?_
     refine tu 8 ?_
     refine tu 9 ?_
     refine tu 10 ?_
     refine tu 11 ?_
     refine tu 12 ?_
     refine tk 13 ?_
     refine tk 14 ?_
     refine tu 15 ?_
     refine tu 16 ?_
     refine tu 17 ?_
     refine tu 18 ?_
     refine tu 19 ?_
     refine tu 20 ?_
     refine tu 21 ?_
     refine tu 22 ?_
     refine tu 23 ?_
     refine tu 24 ?_
     refine tk 25 ?_
     refine tk 26 ?_
     refine tu 27 ?_
     refine tu 28 ?_
     refine tu 29 ?_
     refine tu 30 ?_
     refine tu 31 ?_
     refine tu 32 ?_
     refine tu 33 ?_
     refine tu 34 ?_
     refine tk 35 ?_
     refine wpAnyH_done (by kernel_rfl) ?_ _
     go_wp2_with fail
     go_meet
     exact ⟨false,rfl,hid ⟨⟨fun h=>absurd h (by decide),fun ⟨k2,x2,h1,_⟩=>by rw [HII.out] at h1;cases h1⟩,HK4.out.drew⟩⟩
   | some k =>
     obtain ⟨hkk,hkn⟩:=idx_some hi
     have hfi:fi=(k:Int):=by rw [HFI.out];unfold findI;rw [hi]
     subst hfi
     have HII:=hid hi
     obtain ⟨x,hx⟩:=get_some hkn
     have HXX:=hid hx
     obtain ⟨rb,off,hLA,hrb,_,hrow⟩:=HJ4.out.rx.L.at_ (by omega)
     have hrg:=range_row hrow hx
     have z15:w4.cell? ⟨gy,15,none⟩=some (.slice q.LA q.R.length q.lc):=HL4.out.at_ 15
     rw [hLA] at z15
     have z3:w4.cell? ⟨rb,off+k * 11+3,none⟩=some (.int .i64 x.s.cen):=hrg 3 _ rfl
     have z4:w4.cell? ⟨rb,off+k * 11+4,none⟩=some (.int .i64 x.s.ep):=hrg 4 _ rfl
     have z1:w4.cell? ⟨rb,off+k * 11+1,none⟩=some (.int .i64 x.s.st):=hrg 1 _ rfl
     have q3:w4.cell? ⟨w.heap.size,3,none⟩=some (.int .i64 m.c):=HM4.out.at_ 3
     have q4:w4.cell? ⟨w.heap.size,4,none⟩=some (.int .i64 m.e):=HM4.out.at_ 4
     have hk0:(0:Int)≤(k:Int):=Int.natCast_nonneg _
     have hk1:(k:Int)<(q.R.length:Int):=by omega
     clear hi hx hrow hrg hLA hkk
     by_cases hc:x.s.cen=m.c
     ·have dc:(x.s.cen == m.c)=true:=by simpa using hc
      have Hc:=hid hc
      by_cases he:x.s.ep=m.e
      ·have de:(x.s.ep == m.e)=true:=by simpa using he
       have He:=hid he
       by_cases hs:x.s.st=5
       ·have ds:(x.s.st != 5)=false:=by simp [hs]
        have Hs:=hid hs
        clear hc he hs
        refine wp_region_held_drew (S:=fun W=>W.cell? ⟨w.heap.size,3,none⟩=some (.int .i64 m.c)∧W.cell? ⟨w.heap.size,4,none⟩=some (.int .i64 m.e)∧W.cell? ⟨gy,15,none⟩=some (.slice (some ⟨rb,off,none⟩) q.R.length q.lc)∧W.cell? ⟨rb,off+k * 11+3,none⟩=some (.int .i64 x.s.cen)∧W.cell? ⟨rb,off+k * 11+4,none⟩=some (.int .i64 x.s.ep)∧W.cell? ⟨rb,off+k * 11+1,none⟩=some (.int .i64 x.s.st)) (by kernel_rfl) ⟨q3,q4,z15,z3,z4,z1⟩ (fun hHeld=>?_)
        refine tk 0 ?_
        refine tk 1 ?_
        refine tk 2 ?_
        refine tk 3 ?_
        refine tk 4 ?_
        refine tk 5 ?_
        refine tk 6 ?_
        refine tk 7 ?_
        refine tk 8 ?_
        refine tk 9 ?_
        refine tk 10 ?_
        refine tk 11 ?_
        refine tk 12 ?_
        try simp only [dc]
        refine tk 13 ?_
        refine tk 14 ?_
        refine tk 15 ?_
        refine tk 16 ?_
        refine tk 17 ?_
        refine tk 18 ?_
        refine tk 19 ?_
        refine tk 20 ?_
        refine tk 21 ?_
        refine tk 22 ?_
        refine tk 23 ?_
        refine tk 24 ?_
        try simp only [de]
        refine tk 25 ?_
        refine tk 26 ?_
        refine tk 27 ?_
        refine tk 28 ?_
        refine tk 29 ?_
        refine tk 30 ?_
        refine tk 31 ?_
        refine tk 32 ?_
        refine tk 33 ?_
        refine tk 34 ?_
        try simp only [ds]
        refine tk 35 ?_
        refine wpAnyH_done (by kernel_rfl) ?_ _
        go_wp2_with fail
        go_meet
        exact ⟨false,rfl,hid ⟨⟨fun h=>absurd h (by decide),fun h=>absurd h (fun ⟨k2,x2,h1,h2,h3⟩=>by rw [HII.out] at h1;injection h1 with h1;subst h1;rw [HXX.out] at h2;injection h2 with h2;subst h2;exact absurd Hs.out h3.2.2)⟩,HK4.out.drew⟩⟩
       ·have ds:(x.s.st != 5)=true:=by simpa using hs
        have Hs:=hid hs
        clear hc he hs
        refine wp_region_held_drew (S:=fun W=>W.cell? ⟨w.heap.size,3,none⟩=some (.int .i64 m.c)∧W.cell? ⟨w.heap.size,4,none⟩=some (.int .i64 m.e)∧W.cell? ⟨gy,15,none⟩=some (.slice (some ⟨rb,off,none⟩) q.R.length q.lc)∧W.cell? ⟨rb,off+k * 11+3,none⟩=some (.int .i64 x.s.cen)∧W.cell? ⟨rb,off+k * 11+4,none⟩=some (.int .i64 x.s.ep)∧W.cell? ⟨rb,off+k * 11+1,none⟩=some (.int .i64 x.s.st)) (by kernel_rfl) ⟨q3,q4,z15,z3,z4,z1⟩ (fun hHeld=>?_)
        refine tk 0 ?_
        refine tk 1 ?_
        refine tk 2 ?_
        refine tk 3 ?_
        refine tk 4 ?_
        refine tk 5 ?_
        refine tk 6 ?_
        refine tk 7 ?_
        refine tk 8 ?_
        refine tk 9 ?_
        refine tk 10 ?_
        refine tk 11 ?_
        refine tk 12 ?_
        try simp only [dc]
        refine tk 13 ?_
        refine tk 14 ?_
        refine tk 15 ?_
        refine tk 16 ?_
        refine tk 17 ?_
        refine tk 18 ?_
        refine tk 19 ?_
        refine tk 20 ?_
        refine tk 21 ?_
        refine tk 22 ?_
        refine tk 23 ?_
        refine tk 24 ?_
        try simp only [de]
        refine tk 25 ?_
        refine tk 26 ?_
        refine tk 27 ?_
        refine tk 28 ?_
        refine tk 29 ?_
        refine tk 30 ?_
        refine tk 31 ?_
        refine tk 32 ?_
        refine tk 33 ?_
        refine tk 34 ?_
        try simp only [ds]
        refine tk 35 ?_
        refine wpAnyH_done (by kernel_rfl) ?_ _
        go_wp2_with fail
        go_meet
        exact ⟨true,rfl,hid ⟨⟨fun _=>⟨k,x,HII.out,HXX.out,Hc.out,He.out,Hs.out⟩,fun _=>rfl⟩,HK4.out.drew⟩⟩
      ·have de:(x.s.ep == m.e)=false:=by simpa using he
       have He:=hid he
       clear hc he
       refine wp_region_held_drew (S:=fun W=>W.cell? ⟨w.heap.size,3,none⟩=some (.int .i64 m.c)∧W.cell? ⟨w.heap.size,4,none⟩=some (.int .i64 m.e)∧W.cell? ⟨gy,15,none⟩=some (.slice (some ⟨rb,off,none⟩) q.R.length q.lc)∧W.cell? ⟨rb,off+k * 11+3,none⟩=some (.int .i64 x.s.cen)∧W.cell? ⟨rb,off+k * 11+4,none⟩=some (.int .i64 x.s.ep)∧W.cell? ⟨rb,off+k * 11+1,none⟩=some (.int .i64 x.s.st)) (by kernel_rfl) ⟨q3,q4,z15,z3,z4,z1⟩ (fun hHeld=>?_)
       refine tk 0 ?_
       refine tk 1 ?_
       refine tk 2 ?_
       refine tk 3 ?_
       refine tk 4 ?_
       refine tk 5 ?_
       refine tk 6 ?_
       refine tk 7 ?_
       refine tk 8 ?_
       refine tk 9 ?_
       refine tk 10 ?_
       refine tk 11 ?_
       refine tk 12 ?_
       try simp only [dc]
       refine tk 13 ?_
       refine tk 14 ?_
       refine tk 15 ?_
       refine tk 16 ?_
       refine tk 17 ?_
       refine tk 18 ?_
       refine tk 19 ?_
       refine tk 20 ?_
       refine tk 21 ?_
       refine tk 22 ?_
       refine tk 23 ?_
       refine tk 24 ?_
       try simp only [de]
       refine tk 25 ?_
       refine tk 26 ?_
       refine tu 27 ?_
       refine tu 28 ?_
       refine tu 29 ?_
       refine tu 30 ?_
       refine tu 31 ?_
       refine tu 32 ?_
       refine tu 33 ?_
       refine tu 34 ?_
       refine tk 35 ?_
       refine wpAnyH_done (by kernel_rfl) ?_ _
       go_wp2_with fail
       go_meet
       exact ⟨false,rfl,hid ⟨⟨fun h=>absurd h (by decide),fun h=>absurd h (fun ⟨k2,x2,h1,h2,h3⟩=>by rw [HII.out] at h1;injection h1 with h1;subst h1;rw [HXX.out] at h2;injection h2 with h2;subst h2;exact absurd h3.2.1 He.out)⟩,HK4.out.drew⟩⟩
     ·have dc:(x.s.cen == m.c)=false:=by simpa using hc
      have Hc:=hid hc
      clear hc
      refine wp_region_held_drew (S:=fun W=>W.cell? ⟨w.heap.size,3,none⟩=some (.int .i64 m.c)∧W.cell? ⟨w.heap.size,4,none⟩=some (.int .i64 m.e)∧W.cell? ⟨gy,15,none⟩=some (.slice (some ⟨rb,off,none⟩) q.R.length q.lc)∧W.cell? ⟨rb,off+k * 11+3,none⟩=some (.int .i64 x.s.cen)∧W.cell? ⟨rb,off+k * 11+4,none⟩=some (.int .i64 x.s.ep)∧W.cell? ⟨rb,off+k * 11+1,none⟩=some (.int .i64 x.s.st)) (by kernel_rfl) ⟨q3,q4,z15,z3,z4,z1⟩ (fun hHeld=>?_)
      refine tk 0 ?_
      refine tk 1 ?_
      refine tk 2 ?_
      refine tk 3 ?_
      refine tk 4 ?_
      refine tk 5 ?_
      refine tk 6 ?_
      refine tk 7 ?_
      refine tk 8 ?_
      refine tk 9 ?_
      refine tk 10 ?_
      refine tk 11 ?_
      refine tk 12 ?_
      try simp only [dc]
      refine tk 13 ?_
      refine tk 14 ?_
      refine tu 15 ?_
      refine tu 16 ?_
      refine tu 17 ?_
      refine tu 18 ?_
      refine tu 19 ?_
      refine tu 20 ?_
      refine tu 21 ?_
      refine tu 22 ?_
      refine tu 23 ?_
      refine tu 24 ?_
      refine tk 25 ?_
      refine tk 26 ?_
      refine tu 27 ?_
      refine tu 28 ?_
      refine tu 29 ?_
      refine tu 30 ?_
      refine tu 31 ?_
      refine tu 32 ?_
      refine tu 33 ?_
      refine tu 34 ?_
      refine tk 35 ?_
      refine wpAnyH_done (by kernel_rfl) ?_ _
      go_wp2_with fail
      go_meet
      exact ⟨false,rfl,hid ⟨⟨fun h=>absurd h (by decide),fun h=>absurd h (fun ⟨k2,x2,h1,h2,h3⟩=>by rw [HII.out] at h1;injection h1 with h1;subst h1;rw [HXX.out] at h2;injection h2 with h2;subst h2;exact absurd h3.1 Hc.out)⟩,HK4.out.drew⟩⟩
  case rest =>
  obtain ⟨g0,rfl,hG⟩:=hcut
  obtain ⟨hlv,hk5⟩:=hG.out
  have HLV:=hid hlv
  have HK5:=hid hk5
  clear hG hlv hk5 HM4 HL4 HJ4
  cases g0 with
  | true =>
    go_wp2_with (go_at_call 10;(with_reducible refine (HAW.out _).mono ?_);rintro e w4 ⟨rfl,hk4⟩;have HK9:=hid hk4;clear hk4)
    go_ret
    exact ⟨rfl,((HW.out.then HK13.out).then HK5.out).then HK9.out⟩
  | false =>
  have HST:=hid (show ∀ k l,idx q.pt.L.length m.call=some k→q.pt.L[k]? = some l→l.s.st=5∨l.s.cen≠m.c∨l.s.ep≠m.e from fun k l h1 h2=>by
   rw [show q.pt.L.length=q.R.length from by simp [QS.pt]] at h1
   obtain ⟨x,hx,hxp⟩:=QS.line_at rfl h2
   have h3:x.s=l.s:=congrArg Ln.s hxp
   by_cases a1:l.s.st=5
   ·exact .inl a1
   ·by_cases a2:l.s.cen=m.c
    ·by_cases a3:l.s.ep=m.e
     ·exact absurd (HLV.out.2 ⟨k,x,h1,hx,by rw [h3];exact a2,by rw [h3];exact a3,by rw [h3];exact a1⟩) (by decide)
     ·exact .inr (.inr a3)
    ·exact .inr (.inl a2))
  have HJ5:=hid (HJ.out.same HK5.out)
  have hno:=HJ5.out.px.noOut
  have hne:=hno.1.noEv
  have HOX:=hid (outboxX HJ5.out.px)
  have HEX:=hid (eventsX hno.1)
  have hnx:∀ i,i=p.x→T i≠none:=fun i hi=>by rw [hi,HJ5.out.px.tx];exact fun h=>by cases h
  have HP2:=hid (show PX _ T { p with out:=[],ov:=.slice none 0 0,ev:=[],evv:=.slice none 0 0 } from hne.1)
  have HR2:=hid ((HJ5.out.rx.step hno.2 hnx).step hne.2 hnx)
  have hkc:=hno.2.keep.trans hne.2.keep (fun _ _ e=>e)
  have HKC:=hid hkc
  have hmp:w.heap.size≠p.x:=fun e=>hnx p.x rfl (by rw [←e];exact HNM.out)
  have hgp:gy≠p.x:=fun e=>hnx p.x rfl (by rw [←e];exact HNG.out)
  have HMC:=hid ((HM3.out.keep HK5.out (fun f=>f)).keep hkc hmp)
  have HLC:=hid ((HL.out.keep HK5.out (fun f=>f)).keep hkc hgp)
  have HPT:=hid (show ({ p with out:=[],ov:=.slice none 0 0,ev:=[],evv:=.slice none 0 0 }:PS).pt={ q.pt with out:=[],ev:=[] } from by
   rw [←HJ5.out.eq];rfl)
  have HOK:=hid (show XOk ({ q.pt with out:=[],ev:=[] }:XS) from ⟨HJ5.out.ok.c1,HJ5.out.ok.c9,HJ5.out.ok.wl,HJ5.out.ok.el,HJ5.out.ok.own,HJ5.out.ok.dis,HJ5.out.ok.rt,HJ5.out.ok.ln⟩)
  have HLP:=hid (show p.R.length≤40 from by have h1:=HJ5.out.lens;have h2:=HLN.out;omega)
  have HAN0:=hid (show ∀ k x,q.R[k]? = some x→x.s.ans.length≤200 from fun k x hx=>(HJ5.out.ok.ln k x.pt (by simp [QS.pt,hx])).1.vl.n)
  clear hno hne hkc
  go_upto_region 8 with (go_at_call 12;(with_reducible refine HOX.out.mono ?_);rintro e wB ⟨rfl,hwB⟩;subst hwB)
  go_upto_region 9 with (go_at_call 14;(with_reducible refine HEX.out.mono ?_);rintro e wC ⟨rfl,hwC⟩;subst hwC)
  clear HOX HEX HJ5
  generalize ((wc.setCell ⟨p.x,5,none⟩ (.slice none 0 0)).setCell ⟨p.x,6,none⟩ (.slice none 0 0))=wC at *
  have HKW:=hid (show Same w1 wC from (((HK13.out.then HK5.out).wide (T:=fun i=>i=p.x) (fun _ _ f=>f.elim)).trans HKC.out (fun _ _ e=>e)).wide (fun i hi e=>by
   have h1:=(HTN.out i (hnx i e)).1
   have h2:=HNW.out
   omega))
  have HFQ:=hid (fromQ wC (fun _=>False) m NA nc (HNB.out _ HKW.out) 2)
  unfold FrP at HFQ
  have HEL:=hid (encM_le m HB2.out)
  go_upto_region 10 with (first
   | (refine wpList_load_row rfl _ (.tmp 4) rfl w.heap.size rfl _ #[.int .i64 m.k,.int .i64 m.call,.int .i64 m.d,.int .i64 m.c,.int .i64 m.e,.int .i64 m.n,.slice NA m.body.length nc] (0,0) _ HMC.out Tryz.underlying46 rfl (by kernel_rfl) ?_)
   | (go_at_call 18;(with_reducible refine HFQ.out.mono ?_);rintro e wD ⟨C,cc,rfl,hs,hk⟩;have HSC:=hid hs;have HKD:=hid hk;clear hs hk)
   | (go_at_call 17;(with_reducible refine (recvX (HP2.out.same HKD.out) (by rw [HPT.out];exact HOK.out) (by have:=HLP.out;show p.R.length≤1000;omega) (Nat.zero_le _) (Nat.zero_le _) m.c 2 C cc (encM m) (HSC.out.wide (fun i _ ht=>HP2.out.lt i ht)) (by have:=HEL.out;omega) now).mono ?_);rintro e wE ⟨rfl,hpp⟩;have HPP:=hid hpp;clear hpp))
  obtain ⟨p',T',S,hx',hlv',hpt',hpx',hmv,hS⟩:=HPP.out
  rw [HPT.out,recv_stale (X:={ q.pt with out:=[],ev:=[] }) HK8.out HST.out] at hpt'
  have hx':p'.x=p.x:=hx'
  have ho0:p'.out=[]:=by
   have h1:=congrArg XS.out hpt'
   exact List.map_eq_nil_iff.1 h1
  have he0:p'.ev=[]:=congrArg XS.ev hpt'
  have HLO:=hid (fun W (hk:Same wE W)=>emptyX (hpx'.same hk) ho0 he0)
  rw [hx'] at HLO
  have HRE:=hid ((HR2.out.same HKD.out).step hmv (fun i hi=>(hS i hi).1))
  have HSZW:=hid (show w1.heap.size=w.heap.size+1 from HSZ.out)
  have hkE:Keep (fun i=>T i≠none) wC wE:=(HKD.out.wide (T:=fun i=>T i≠none) (fun _ _ f=>f.elim)).trans hmv.keep (fun i _ hs=>(hS i hs).1)
  have HFIN:=hid (fun W (hk:Keep (fun i=>i=p.x) wE W)=>show Same w W from (((((HW.out.then HKW.out).wide (T:=fun i=>T i≠none) (fun _ _ f=>f.elim)).trans hkE (fun _ _ e=>e)).trans hk (fun i _ e=>hnx i e)).wide (fun i hi e=>by
   have h1:=(HTN.out i e).1
   have h2:=HNW.out
   have h3:=HSZW.out
   omega)))
  have HME:=hid (HMC.out.keep hkE (fun e=>e HNM.out))
  have HLE:=hid (HLC.out.keep hkE (fun e=>e HNG.out))
  have HPE:=hid hpx'
  have HQE:=hid (show p'.pt.L=q.pt.L from by rw [hpt'])
  have HXP:=hid hx'
  clear hx' hpt' hlv' hpx' hmv hS ho0 he0 hkE HPP HP2 HR2 HKC HMC HLC HFQ
  have HLQ:=hid (show p'.R.length=q.R.length from by have h1:=congrArg List.length HQE.out;simpa [PS.pt,QS.pt] using h1)
  cases hi:idx q.R.length m.call with
  | none =>
    have hfi:fi = -1:=by rw [HFI.out];unfold findI;rw [hi]
    subst hfi
    clear hi
    go_upto_region 10 with fail
    refine wp_region_held_drew (S:=fun W=>True) (by kernel_rfl) trivial (fun hHeld=>?_)
    refine tk 0 ?_
    refine tk 1 ?_
    refine tk 2 ?_
    refine tu 3 ?_
    refine tu 4 ?_
    refine tu 5 ?_
    refine tu 6 ?_
    refine tu 7 ?_
    refine tu 8 ?_
    refine tu 9 ?_
    refine tu 10 ?_
    refine tu 11 ?_
    refine tu 12 ?_
    refine tu 13 ?_
    refine tu 14 ?_
    refine tu 15 ?_
    refine tu 16 ?_
    refine tu 17 ?_
    refine tu 18 ?_
    refine tu 19 ?_
    refine tu 20 ?_
    refine tu 21 ?_
    refine tu 22 ?_
    refine tu 23 ?_
    refine tu 24 ?_
    refine tu 25 ?_
    refine tu 26 ?_
    refine tu 27 ?_
    refine tu 28 ?_
    refine tu 29 ?_
    refine tk 30 ?_
    refine wpAnyH_done (by kernel_rfl) ?_ _
    go_wp2_with (first
     | (go_at_call 12;(with_reducible refine (HLO.out _ ((Keep.refl (fun _=>False) wE).drew)).mono ?_);rintro e wf ⟨OV,ovc,rfl,hpf,hkf⟩;have HPF:=hid hpf;have HKF:=hid hkf;clear hpf hkf)
     | (go_at_call 14;(with_reducible refine HPF.out.mono ?_);rintro e wg ⟨EV,evc,rfl,hkg⟩;have HKG:=hid hkg;clear hkg)
     | (go_at_call 10;(with_reducible refine (HAW.out _).mono ?_);rintro e wh ⟨rfl,hkh⟩;have HKH:=hid hkh;clear hkh))
    go_ret
    exact ⟨rfl,HFIN.out _ ((((((Keep.refl (fun _=>False) wE).drew):Same wE _).wide (T:=fun i=>i=p.x) (fun _ _ f=>f.elim)).trans HKF.out (fun _ _ e=>e)).trans HKG.out (fun _ _ e=>e) |>.then HKH.out)⟩
  | some k =>
    obtain ⟨hkk,hkn⟩:=idx_some hi
    have hfi:fi=(k:Int):=by rw [HFI.out];unfold findI;rw [hi]
    subst hfi
    obtain ⟨x,hx⟩:=get_some hkn
    have hl:p'.pt.L[k]? = some x.pt:=by rw [HQE.out];simp [QS.pt,hx]
    obtain ⟨y,hy,hyp⟩:=ps_line rfl hl
    have hys:y.s=x.s:=congrArg Ln.s hyp
    have hi2:idx p'.R.length m.call=some k:=by rw [HLQ.out];exact hi
    have HPL:=hid (show p'.R.length≤1000000 from by rw [HLQ.out];have:=HLN.out;omega)
    have HAL:=hid (HAN0.out k x hx)
    have HSTX:=hid (fun W (hk:Same wE W)=>(stateX_some (HPE.out.same hk) hi2 hy HPL.out).mono (fun e w' h=>(⟨h.1,by rw [←h.2];exact Keep.refl _ _⟩:e=.returned (.int .i64 y.s.st)∧Same W w')))
    have HAN:=hid (fun W (hk:Same wE W)=>answersX_some (HPE.out.same hk) hi2 hy HPL.out (by rw [hys];have:=HAL.out;omega))
    unfold NI at HAN
    have hxp:p'.x=p.x:=HXP.out
    rw [hys,hxp] at HSTX HAN
    have HXA:=hid (fun W (hk:Same wE W)=>((HRE.out.same hk).lin x (List.mem_of_getElem? hx)).an.wide (Av':=fun _=>False) (fun _ _ f=>f.elim))
    obtain ⟨rb,off,hLA,hrb,_,hrow⟩:=HRE.out.L.at_ (by omega)
    have hrg:=range_row hrow hx
    have HSD:=hid (fun W (hk:Same wE W)=>show W.cell? ⟨w.heap.size,1,none⟩=some (.int .i64 m.call)∧W.cell? ⟨gy,15,none⟩=some (.slice (some ⟨rb,off,none⟩) q.R.length q.lc)∧W.cell? ⟨rb,off+k * 11+1,none⟩=some (.int .i64 x.s.st)∧W.cell? ⟨rb,off+k * 11+7,none⟩=some (.slice x.A x.s.ans.length x.c) from by
     have h1:=(HLE.out.keep hk (fun f=>f)).at_ 15
     refine ⟨(HME.out.keep hk (fun f=>f)).at_ 1,?_,?_,?_⟩
     ·rw [←hLA];exact h1
     ·exact (hk.cell (p:=⟨rb,off+k * 11+1,none⟩) hrb (fun f=>f)).trans (hrg 1 _ rfl)
     ·exact (hk.cell (p:=⟨rb,off+k * 11+7,none⟩) hrb (fun f=>f)).trans (hrg 7 _ rfl))
    have HKE0:=hid (show Same wE wE.drew from (Keep.refl _ _).drew)
    have hk0:(0:Int)≤(k:Int):=Int.natCast_nonneg _
    have hk1:(k:Int)<(q.R.length:Int):=by omega
    have dk:decide ((0:Int)≤(k:Int))=true:=decide_eq_true hk0
    clear hi hx hl hy hyp hys hi2 hxp hrow hrg hLA hkk
    go_upto_region 10 with fail
    refine wp_region_held_drew (S:=fun W=>W.cell? ⟨w.heap.size,1,none⟩=some (.int .i64 m.call)∧W.cell? ⟨gy,15,none⟩=some (.slice (some ⟨rb,off,none⟩) q.R.length q.lc)∧W.cell? ⟨rb,off+k * 11+1,none⟩=some (.int .i64 x.s.st)∧W.cell? ⟨rb,off+k * 11+7,none⟩=some (.slice x.A x.s.ans.length x.c)) (by kernel_rfl) (HSD.out _ HKE0.out) (fun hHeld=>?_)
    have HKd:=hid (Keep.refl (fun _=>False) wE).drew
    generalize wE.drew=wd at *
    refine tk 0 ?_
    refine tk 1 ?_
    try simp only [dk]
    refine tk 2 ?_
    refine tk 3 ?_
    refine tk 4 ?_
    refine tk 5 ?_
    refine tk 7 ?_
    refine tk 8 ?_
    refine tk 9 ?_
    refine tk 10 ?_
    refine tk 11 ?_
    refine tk 12 ?_
    refine tk 13 ?_
    refine rd1 6 (fun K hK=>?_)
    go_simp
    (with_reducible refine (HSTX.out _ HKd.out).mono ?_)
    rintro e8 w8 ⟨rfl,hk8⟩
    have HD8:=hid (HKd.out.then hk8)
    clear hk8
    refine hK.out _ _ (HSD.out _ HD8.out) (fun hHeld8=>?_)
    clear hK K
    refine pput ?_
    refine tk 14 ?_
    try simp only [bne_self_eq_false]
    refine tk 15 ?_
    refine tk 16 ?_
    refine tk 17 ?_
    refine tk 18 ?_
    refine tk 20 ?_
    refine tk 21 ?_
    refine tk 22 ?_
    refine tk 23 ?_
    refine tk 24 ?_
    refine tk 25 ?_
    refine tk 26 ?_
    refine rd1 19 (fun K hK=>?_)
    go_simp
    (with_reducible refine (HAN.out _ HD8.out).mono ?_)
    rintro e9 w9 ⟨A9,c9,rfl,hs9,hk9⟩
    have HS9:=hid hs9
    have HD9:=hid (HD8.out.then hk9)
    clear hs9 hk9
    refine hK.out _ _ (HSD.out _ HD9.out) (fun hHeld9=>?_)
    clear hK K
    refine pput ?_
    refine rd1 27 (fun K hK=>?_)
    go_simp
    (with_reducible refine (numbersQ w9 (fun i=>i<w8.heap.size) (fun _=>False) A9 x.A c9 x.c x.s.ans HS9.out (HXA.out _ HD9.out) (by have:=HAL.out;omega)).mono ?_)
    rintro e10 w10 ⟨rfl,hk10⟩
    have HD10:=hid (HD9.out.then hk10)
    clear hk10
    refine hK.out _ _ (HSD.out _ HD10.out) (fun hHeld10=>?_)
    clear hK K
    refine pput ?_
    try simp only [Bool.not_true]
    refine tk 28 ?_
    refine tk 29 ?_
    refine tk 30 ?_
    refine wpAnyH_done (by kernel_rfl) ?_ _
    go_wp2_with (first
     | (go_at_call 12;(with_reducible refine (HLO.out _ HD10.out).mono ?_);rintro e wf ⟨OV,ovc,rfl,hpf,hkf⟩;have HPF:=hid hpf;have HKF:=hid hkf;clear hpf hkf)
     | (go_at_call 14;(with_reducible refine HPF.out.mono ?_);rintro e wg ⟨EV,evc,rfl,hkg⟩;have HKG:=hid hkg;clear hkg)
     | (go_at_call 10;(with_reducible refine (HAW.out _).mono ?_);rintro e wh ⟨rfl,hkh⟩;have HKH:=hid hkh;clear hkh))
    go_ret
    exact ⟨rfl,HFIN.out _ ((((HD10.out:Same wE _).wide (T:=fun i=>i=p.x) (fun _ _ f=>f.elim)).trans HKF.out (fun _ _ e=>e)).trans HKG.out (fun _ _ e=>e) |>.then HKH.out)⟩
end Go.Proofs.YtbjddfiledoaoaaGreat

import Derived.Test.YtbjddfiledoaoaaGreatZEp
namespace Go.Proofs.YtbjddfiledoaoaaGreat
open Go.RowKit
set_option maxHeartbeats 8000000 in
set_option maxRecDepth 100000 in
theorem owner_walk (w:World) (c:CF) (hmm:CM w c) (hff:Few c) (B:Option Addr) (cb:Nat) (l:List AT) (hl:ATs w (fun _=>False) B l) (hn:l.length≤maxLen):Calls Tryz.prog 7 #[.agg c.cells.toArray,.slice B l.length cb] w (fun e w'=>e=.returned (.bool true)∧Same w w'):=by
 have hm:=Blk.made w 27 c.cells.toArray
 have hw:Same w (w.alloc (.cells c.cells.toArray 27)):=(Keep.refl _ _).alloc _
 generalize hw1:(w.alloc (.cells c.cells.toArray 27))=w1 at *
 have HPL:=hid (playedU w1 c (hmm.same hw) hff B cb l (hl.same hw) hn)
 unfold PlU at HPL
 have HAW:=hid awakeQ
 have HM:=hid hm
 have HW:=hid hw
 clear hm hmm hff hl hn hw
 go_enter Tryz.func7,Tryz.ntmps7
 go_upto_region 1 with fail
 try rw [hw1]
 clear hw1
 go_upto_region 2 with (first
  | (refine wpList_load_row rfl _ (.tmp 2) rfl w.heap.size rfl _ c.cells.toArray (0,0) _ HM.out Tryz.underlying27 rfl (by kernel_rfl) ?_)
  | (go_at_call 9
     (with_reducible refine HPL.out.mono ?_)
     rintro e w2 ⟨P,q,rfl,hk2,hc2⟩
     have HK2:=hid hk2
     have HC2:=hid hc2
     have HZN:=hid (Blk.made w2 35 #[.int .i64 0,.slice none 0 0,.slice none 0 0,.slice none 0 0,.slice none 0 0,.int .i64 0,.int .i64 0,.int .i64 0,.int .i64 0,.int .i64 0,.int .i64 0,.int .i64 0,.int .i64 0,.int .i64 0,.int .i64 0,.slice none 0 0,.slice none 0 0,.slice none 0 0,.slice none 0 0,.slice none 0 0])
     clear hk2 hc2)
  | (refine wpList_store_row rfl _ (.tmp 6) (.tmp 21) rfl w2.heap.size q.cells.toArray rfl rfl _ _ HZN.out (by kernel_rfl) rfl (one_toArray (q_one q)) ?_))
 have hL3:Blk ((w2.alloc (.cells #[.int .i64 0,.slice none 0 0,.slice none 0 0,.slice none 0 0,.slice none 0 0,.int .i64 0,.int .i64 0,.int .i64 0,.int .i64 0,.int .i64 0,.int .i64 0,.int .i64 0,.int .i64 0,.int .i64 0,.int .i64 0,.slice none 0 0,.slice none 0 0,.slice none 0 0,.slice none 0 0,.slice none 0 0] 35)).setRow w2.heap.size q.cells.toArray) w2.heap.size 35 q.cells.toArray:=HZN.out.row _
 have hk3:Same w2 ((w2.alloc (.cells #[.int .i64 0,.slice none 0 0,.slice none 0 0,.slice none 0 0,.slice none 0 0,.int .i64 0,.int .i64 0,.int .i64 0,.int .i64 0,.int .i64 0,.int .i64 0,.int .i64 0,.int .i64 0,.int .i64 0,.int .i64 0,.slice none 0 0,.slice none 0 0,.slice none 0 0,.slice none 0 0,.slice none 0 0] 35)).setRow w2.heap.size q.cells.toArray):=((Keep.refl (fun _=>False) w2).alloc _).trans (Keep.row _ _ _) (fun j hj e=>by have e2:j=w2.heap.size:=e;omega)
 obtain ⟨gy,hgy⟩:∃ g,g=w2.heap.size:=⟨_,rfl⟩
 rw [←hgy] at hL3 hk3 ⊢
 have HL:=hid hL3
 have HK3:=hid hk3
 have HGY:=hid hgy
 clear hL3 hk3 hgy HZN HPL
 generalize ((w2.alloc (.cells #[.int .i64 0,.slice none 0 0,.slice none 0 0,.slice none 0 0,.slice none 0 0,.int .i64 0,.int .i64 0,.int .i64 0,.int .i64 0,.int .i64 0,.int .i64 0,.int .i64 0,.int .i64 0,.int .i64 0,.int .i64 0,.slice none 0 0,.slice none 0 0,.slice none 0 0,.slice none 0 0,.slice none 0 0] 35)).setRow gy q.cells.toArray)=w3 at *
 have hc2:=HC2.out
 clear HC2
 rcases hc2 with rfl | ⟨T,p,rfl,hj,hq,hnew,h40,hv,hfw⟩
 ·go_wp2_with (go_at_call 10;(with_reducible refine (HAW.out _).mono ?_);rintro e w4 ⟨rfl,hk4⟩;have HK4:=hid hk4;clear hk4)
  go_ret
  exact ⟨rfl,(((HW.out.then HK2.out).then HK3.out).then HK4.out)⟩
 ·have HJ:=hid (hj.same HK3.out)
  have hlen:=HJ.out.lens
  have hnn:=HJ.out.n
  have HLN:=hid (show q.R.length≤40 by omega)
  have HPN:=hid (show p.R.length=q.R.length from hlen.1)
  have HOP:=hid (opensX HJ.out.px (by omega))
  unfold NI at HOP
  rw [HJ.out.eq] at HOP
  obtain ⟨x0,hx0⟩:∃ x0,x0=p.x:=⟨_,rfl⟩
  rw [←hx0] at HOP ⊢
  have HX:=hid hx0
  clear hj hq hnew h40 hv hfw hlen hnn hx0
  go_upto_region 5 with (go_at_call 25;(with_reducible refine HOP.out.mono ?_);rintro e w4 ⟨A,ca,rfl,hs,hk⟩;have HS:=hid hs;have HK4:=hid hk;clear hs hk)
  obtain ⟨N,hN⟩:∃ N,N=q.pt.opens:=⟨_,rfl⟩
  rw [←hN] at HS ⊢
  have HN:=hid hN
  have HNL:=hid (show N.length≤40 by
   rw [hN]
   unfold XS.opens openN
   rw [List.length_map]
   refine Nat.le_trans (List.length_filter_le _ _) ?_
   rw [List.length_range]
   have:q.pt.L.length=q.R.length:=by simp [QS.pt]
   have:=HLN.out
   omega)
  clear hN HOP
  go_loopw [32] (fun i wr=>∃ j:Nat,j≤N.length∧i=.int .i64 j∧Hid (Same w4 wr)) (fun i _=>N.length - (RowKit.intOf i).toNat)
  case atStart=>exact ⟨0,Nat.zero_le _,rfl,hid (Keep.refl _ _)⟩
  case round =>
   obtain ⟨j,hj,rfl,HI⟩:=hrel
   have hj0:(0:Int)≤(j:Int):=Int.natCast_nonneg _
   by_cases hjn:j<N.length
   ·have hj1:(j:Int)<(N.length:Int):=by omega
    have hj2:(j:Int)<40:=by have:=HNL.out;omega
    obtain ⟨k,hk⟩:=get_some hjn
    obtain ⟨b1,o1,hB1,_,y1⟩:=int_at (HS.out.same HI.out) hk
    subst hB1
    rw [HN.out] at hk
    obtain ⟨n,ln,rfl,hnl,hln,hst⟩:=opens_at hk
    clear hk
    have HJr:=hid (HJ.out.same (HK4.out.then HI.out))
    have HLr:=hid (HL.out.keep (HK4.out.then HI.out) (fun f=>f))
    obtain ⟨x,hx,hxp⟩:=QS.line_at rfl hln
    obtain ⟨y,hy,hyp⟩:=ps_line HJ.out.eq hln
    obtain ⟨d9,d9b,d9c⟩:=HJ.out.ok.ln n ln hln
    obtain ⟨a,b,hwh,hep,hho,hab1,hab2⟩:=HJ.out.ok.hold d9b
    have hown:=HJ.out.own n ln hln hst
    rw [hho] at hown
    injection hown with hown1 hown2
    have hyc:y.s.cen=a:=by rw [←hown1,←hyp];rfl
    have hye:y.s.ep=b:=by rw [←hown2,←hyp];rfl
    obtain ⟨dn,hdn⟩:∃ dn:Nat,ln.d.toNat=dn:=⟨_,rfl⟩
    rw [hdn] at hwh hep
    have hxd:x.d=(dn:Int):=by
     have:x.d=ln.d:=by rw [←hxp];rfl
     omega
    have hnR:n<q.R.length:=(List.getElem?_eq_some_iff.1 hx).1
    have hn0:(0:Int)≤(n:Int):=Int.natCast_nonneg _
    have hn1:(n:Int)<(q.R.length:Int):=by omega
    have HF:=hid (findQ wr q (by have:=HLN.out;omega) ((n:Int)+1))
    rw [findI_at hnR] at HF
    have HOW:=hid (fun W (hk:Same wr W)=>ownerX_some (HJr.out.px.same hk) (call:=(n:Int)+1) (k:=n) (by rw [HPN.out];exact idx_at hnR) hy (by rw [HPN.out];have:=HLN.out;omega))
    rw [hyc,hye,←HX.out] at HOW
    have HHO:=hid (fun W (hk:Same wr W)=>holderX (HJr.out.px.same hk) (d:=dn) (a:=(a,b)) (ps_hold HJ.out.eq hwh hep) (by
     have h1:p.hold.length=q.who.length:=by
      have h2:=congrArg (fun X=>X.who.length) HJ.out.eq
      simpa [PS.pt,QS.pt] using h2
     have h3:=HJ.out.ok.wl
     have h4:=HJ.out.ok.c9
     have h5:q.pt.who.length=q.who.length:=rfl
     omega))
    rw [←HX.out] at HHO
    have HXR:=hid hx
    have HXD:=hid hxd
    clear hdn hwh hep hho hab1 hab2 hown1 hown2 hyc hye hxd hy hyp hxp d9 d9b d9c hx hln hst
    go_upto_region 8 with (first
     | (refine wpList_load_row rfl _ (.tmp 6) rfl gy rfl _ q.cells.toArray (0,0) _ HLr.out Tryz.underlying35 rfl (by kernel_rfl) ?_)
     | (go_at_call 16;(with_reducible refine HF.out.mono ?_);rintro e w5 ⟨rfl,hk5⟩;have HK5:=hid hk5;clear hk5))
    go_upto_region 11 with (go_at_call 31;(with_reducible refine (HOW.out _ HK5.out).mono ?_);rintro e w6 ⟨rfl,hk6⟩;have HK6:=hid (HK5.out.then hk6);clear hk6)
    have HJ6:=HJr.out.same HK6.out
    obtain ⟨rb,off,hLA,hrb,_,hrow⟩:=HJ6.rx.L.at_ (by omega)
    have zd:w6.cell? ⟨rb,off+n * 11+8,none⟩=some (.int .i64 x.d):=range_row hrow HXR.out 8 _ rfl
    rw [HXD.out] at zd
    have z15:w6.cell? ⟨gy,15,none⟩=some (.slice q.LA q.R.length q.lc):=(HLr.out.keep HK6.out (fun f=>f)).at_ 15
    rw [hLA] at z15
    clear HJ6 hrow hLA hrb
    go_wp2_with (go_at_call 32;(with_reducible refine (HHO.out _ HK6.out).mono ?_);rintro e w7 ⟨rfl,hk7⟩;have HK7:=hid (HK6.out.then hk7);clear hk7)
    go_roundw
    case rel =>
     first | exact ⟨j+1,by omega,by go_num,hid (HI.out.then HK7.out)⟩ | ((repeat apply Exists.intro);refine And.intro ?_ rfl;exact ⟨j+1,by omega,by go_num,hid (HI.out.then HK7.out)⟩)
    case measure=>simp [RowKit.intOf];omega
   ·obtain rfl:j=N.length:=by omega
    go_wp2_with (go_at_call 10;(with_reducible refine (HAW.out _).mono ?_);rintro e w5 ⟨rfl,hk5⟩;have HK5:=hid hk5;clear hk5)
    go_ret
    exact ⟨rfl,(((((HW.out.then HK2.out).then HK3.out).then HK4.out).then HI.out).then HK5.out)⟩
end Go.Proofs.YtbjddfiledoaoaaGreat

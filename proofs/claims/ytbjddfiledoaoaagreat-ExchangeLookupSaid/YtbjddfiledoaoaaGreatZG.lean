import Derived.Test.YtbjddfiledoaoaaGreatZEp
import Derived.Test.YtbjddfiledoaoaaGreatZP
namespace Go.Proofs.YtbjddfiledoaoaaGreat
open Go.RowKit
theorem mid_line {w:World} {b off k:Nat} {x:QA} (h:w.rangeAt b (off+k * 11) x.cells):w.rangeAt b (off+k * 11) (x.s.cells x.A x.c):=fun j v hj=>h j v (by
 have hj8:j<8:=(List.getElem?_eq_some_iff.1 hj).1
 rw [show x.cells=x.s.cells x.A x.c++[.int .i64 x.d,.slice x.B x.src.length x.bc,.int .i64 x.last] from rfl,List.getElem?_append_left (by exact hj8)]
 exact hj)
theorem JJ.two {w:World} {T:Tags} {p:PS} {q:QS} {c:CF} {b k:Nat} (J:JJ w T p q c b) (hk:k<q.R.length):∃ (x:QA) (y:RA),q.R[k]? = some x∧p.R[k]? = some y∧y.s=x.s∧q.pt.L[k]? = some x.pt:=by
 obtain ⟨x,hx⟩:=get_some hk
 have hl:q.pt.L[k]? = some x.pt:=by simp [QS.pt,hx]
 obtain ⟨y,hy,hyp⟩:=ps_line J.eq hl
 exact ⟨x,y,hx,hy,congrArg Ln.s hyp,hl⟩
def lookN (n j:Nat) (call:Int):Int:=if j≤n then j else call
set_option maxHeartbeats 8000000 in
set_option maxRecDepth 100000 in
theorem lookup_walk (w:World) (c:CF) (hmm:CM w c) (hff:Few c) (B:Option Addr) (cb:Nat) (l:List AT) (hl:ATs w (fun _=>False) B l) (hn:l.length≤maxLen) (call:Int):Calls Tryz.prog 8 #[.agg c.cells.toArray,.slice B l.length cb,.int .i64 call] w (fun e w'=>e=.returned (.bool true)∧Same w w'):=by
 have hm:=Blk.made w 27 c.cells.toArray
 have hw:Same w (w.alloc (.cells c.cells.toArray 27)):=(Keep.refl _ _).alloc _
 generalize hw1:(w.alloc (.cells c.cells.toArray 27))=w1 at *
 have HPL:=hid (playedU w1 c (hmm.same hw) hff B cb l (hl.same hw) hn)
 unfold PlU at HPL
 have HAW:=hid awakeQ
 have HM:=hid hm
 have HW:=hid hw
 clear hm hmm hff hl hn hw
 go_enter Tryz.func8,Tryz.ntmps8
 go_upto_region 1 with fail
 try rw [hw1]
 clear hw1
 go_upto_region 2 with (first
  | (refine wpList_load_row rfl _ (.tmp 3) rfl w.heap.size rfl _ c.cells.toArray (0,0) _ HM.out Tryz.underlying27 rfl (by kernel_rfl) ?_)
  | (go_at_call 9
     (with_reducible refine HPL.out.mono ?_)
     rintro e w2 ⟨P,q,rfl,hk2,hc2⟩
     have HK2:=hid hk2
     have HC2:=hid hc2
     have HZN:=hid (Blk.made w2 35 #[.int .i64 0,.slice none 0 0,.slice none 0 0,.slice none 0 0,.slice none 0 0,.int .i64 0,.int .i64 0,.int .i64 0,.int .i64 0,.int .i64 0,.int .i64 0,.int .i64 0,.int .i64 0,.int .i64 0,.int .i64 0,.slice none 0 0,.slice none 0 0,.slice none 0 0,.slice none 0 0,.slice none 0 0])
     clear hk2 hc2)
  | (refine wpList_store_row rfl _ (.tmp 8) (.tmp 29) rfl w2.heap.size q.cells.toArray rfl rfl _ _ HZN.out (by kernel_rfl) rfl (one_toArray (q_one q)) ?_))
 have hL3:Blk ((w2.alloc (.cells #[.int .i64 0,.slice none 0 0,.slice none 0 0,.slice none 0 0,.slice none 0 0,.int .i64 0,.int .i64 0,.int .i64 0,.int .i64 0,.int .i64 0,.int .i64 0,.int .i64 0,.int .i64 0,.int .i64 0,.int .i64 0,.slice none 0 0,.slice none 0 0,.slice none 0 0,.slice none 0 0,.slice none 0 0] 35)).setRow w2.heap.size q.cells.toArray) w2.heap.size 35 q.cells.toArray:=HZN.out.row _
 have hk3:Same w2 ((w2.alloc (.cells #[.int .i64 0,.slice none 0 0,.slice none 0 0,.slice none 0 0,.slice none 0 0,.int .i64 0,.int .i64 0,.int .i64 0,.int .i64 0,.int .i64 0,.int .i64 0,.int .i64 0,.int .i64 0,.int .i64 0,.int .i64 0,.slice none 0 0,.slice none 0 0,.slice none 0 0,.slice none 0 0,.slice none 0 0] 35)).setRow w2.heap.size q.cells.toArray):=((Keep.refl (fun _=>False) w2).alloc _).trans (Keep.row _ _ _) (fun j hj e=>by have e2:j=w2.heap.size:=e;omega)
 obtain ⟨gy,hgy⟩:∃ g,g=w2.heap.size:=⟨_,rfl⟩
 rw [←hgy] at hL3 hk3 ⊢
 have HL:=hid hL3
 have HK3:=hid hk3
 have HGY:=hid hgy
 clear hL3 hk3 hgy HZN HPL
 generalize ((w2.alloc (.cells #[.int .i64 0,.slice none 0 0,.slice none 0 0,.slice none 0 0,.slice none 0 0,.int .i64 0,.int .i64 0,.int .i64 0,.int .i64 0,.int .i64 0,.int .i64 0,.int .i64 0,.int .i64 0,.int .i64 0,.int .i64 0,.slice none 0 0,.slice none 0 0,.slice none 0 0,.slice none 0 0,.slice none 0 0] 35)).setRow gy q.cells.toArray)=w3 at *
 have hc2:=HC2.out
 clear HC2
 rcases hc2 with rfl | ⟨T,p,rfl,hj,hq,hnew,h40,hv,hfw⟩
 ·go_wp2_with (go_at_call 10;(with_reducible refine (HAW.out _).mono ?_);rintro e w4 ⟨rfl,hk4⟩;have HK4:=hid hk4;clear hk4)
  go_ret
  exact ⟨rfl,(((HW.out.then HK2.out).then HK3.out).then HK4.out)⟩
 ·have HJ:=hid (hj.same HK3.out)
  have hlen:=HJ.out.lens
  have hnn:=HJ.out.n
  have HLN:=hid (show q.R.length≤40 by omega)
  have HPN:=hid (show p.R.length=q.R.length from hlen.1)
  obtain ⟨x0,hx0⟩:∃ x0,x0=p.x:=⟨_,rfl⟩
  rw [←hx0]
  have HX:=hid hx0
  obtain ⟨n,hn⟩:∃ n,n=q.R.length:=⟨_,rfl⟩
  have HN:=hid hn
  have hn40:n≤40:=by have:=HLN.out;omega
  clear hj hq hnew h40 hv hfw hlen hnn hx0 hn
  have y15:w3.cell? ⟨gy,15,none⟩=some (.slice q.LA q.R.length q.lc):=HL.out.at_ 15
  rw [←HN.out] at y15
  have HY15:=hid y15
  clear y15
  go_wp2_with fail
  go_loopw [10,11] (fun ov i wr=>∃ (j:Nat) (L:List Int) (V:Option Addr) (vc:Nat),j≤n+2∧i=.int .i64 j∧ov=.slice V L.length vc∧L.length≤j∧Hid (GL w3 wr V vc L (openN q.pt (min (j - 1) n)))) (fun _ i _=>n+2 - (RowKit.intOf i).toNat)
  case atStart=>exact ⟨0,[],none,0,Nat.zero_le _,rfl,rfl,by simp,hid ⟨Own.nil _ _ _ _,by simp [openN],Keep.refl _ _⟩⟩
  case round =>
   obtain ⟨j,L,V,vc,hj,rfl,rfl,hL,HI⟩:=hrel
   have hj0:(0:Int)≤(j:Int):=Int.natCast_nonneg _
   have hn41:(n:Int)≤40:=by omega
   have y15:wr.cell? ⟨gy,15,none⟩=some (.slice q.LA n q.lc):=(HI.out.same.cell (p:=⟨gy,15,none⟩) HL.out.lt (fun f=>f)).trans HY15.out
   by_cases hlt:j≤n+1
   ·have hj1:(j:Int)≤(n:Int)+1:=by omega
    obtain ⟨kv,hkv⟩:∃ kv,kv=lookN n j call:=⟨_,rfl⟩
    have HKV:=hid hkv
    clear hkv
    have HJr:=hid (HJ.out.same HI.out.same)
    have HLr:=hid (HL.out.keep HI.out.same (fun f=>f))
    go_upto_region 9 with fail
    go_cut [50] from 46 to 50 (fun u w'=>∃ g:Bool,u=.bool g∧Hid (g=decide ((n:Int)<j)∧w'=wr))
    case first =>
     go_wp2_with fail
     go_meet
     exact ⟨decide (n<j),rfl,hid ⟨by simp,rfl⟩⟩
    case rest =>
    obtain ⟨g,rfl,hG⟩:=hcut
    obtain ⟨hg,hW⟩:=hG.out
    rw [hW]
    have HG:=hid hg
    clear hG hg hW
    go_upto_if 50 with fail
    go_cut [12] from 51 to 51 (fun u w'=>u=.int .i64 kv∧Hid (w'=wr))
    case first =>
     cases g
     ·have hg:¬(n:Int)<j:=of_decide_eq_false HG.out.symm
      have e:kv=j:=by rw [HKV.out];unfold lookN;rw [if_pos (by omega)]
      go_wp2_with fail
      go_meet
      exact ⟨by rw [e],hid rfl⟩
     ·have hg:(n:Int)<j:=of_decide_eq_true HG.out.symm
      have e:kv=call:=by rw [HKV.out];unfold lookN;rw [if_neg (by omega)]
      go_wp2_with fail
      go_meet
      exact ⟨by rw [e],hid rfl⟩
    case rest =>
    obtain ⟨rfl,hG⟩:=hcut
    rw [hG.out]
    clear hG HG
    have HPL:=hid (show p.R.length≤1000000 by rw [HPN.out,←HN.out];omega)
    have HFQ:=hid (fun W=>findQ W q (by rw [←HN.out];omega) kv)
    cases hi:idx n kv with
    | none =>
      have hi2:idx p.R.length kv=none:=by rw [HPN.out,←HN.out];exact hi
      have HOW:=hid (ownerX_none HJr.out.px hi2 HPL.out)
      have HST:=hid (fun W (hk:Same wr W)=>stateX_none (HJr.out.px.same hk) hi2 HPL.out)
      have HAN:=hid (fun W (hk:Same wr W)=>show Calls Tryz.prog 21 #[.pointer (some ⟨p.x,0,none⟩),.int .i64 kv] W (fun e w'=>∃ A c,e=.returned (.slice A 0 c)∧Same W w') from (answersX_none (HJr.out.px.same hk) hi2 HPL.out).mono (fun e w' h=>by
       obtain ⟨A,c,h1,_,h3⟩:=h
       exact ⟨A,c,h1,h3⟩))
      have HF:=hid (fun W=>show Calls Tryz.prog 16 #[.agg q.cells.toArray,.int .i64 kv] W (fun e w'=>e=.returned (.int .i64 (-1))∧Same W w') from by
       have:=HFQ.out W
       unfold findI at this
       rw [←HN.out,hi] at this
       exact this)
      rw [←HX.out] at HOW HST HAN
      have HEQ:=hid (show openN q.pt (min (j+1 - 1) n)=openN q.pt (min (j - 1) n) from by
       congr 1
       have h1:=idx_none hi
       have h2:=HKV.out
       unfold lookN at h2
       split at h2 <;> omega)
      clear hi hi2 HFQ
      go_upto_region 14 with (first
       | (refine wpList_load_row rfl _ (.tmp 8) rfl gy rfl _ q.cells.toArray (0,0) _ HLr.out Tryz.underlying35 rfl (by kernel_rfl) ?_)
       | (go_at_call 31;(with_reducible refine HOW.out.mono ?_);rintro e w4 ⟨rfl,hw4⟩;subst hw4)
       | (go_at_call 16;(with_reducible refine (HF.out _).mono ?_);rintro e w5 ⟨rfl,hk5⟩;have HK5:=hid hk5;clear hk5))
      go_wp2_with (first
       | (go_at_call 19;(with_reducible refine (HST.out _ HK5.out).mono ?_);rintro e w6 ⟨rfl,hw6⟩;subst hw6)
       | (go_at_call 21;(with_reducible refine (HAN.out _ HK5.out).mono ?_);rintro e w6 ⟨A6,c6,rfl,hk6⟩;have HK6:=hid (HK5.out.then hk6);clear hk6))
      go_roundw
      case rel =>
       have HF:=hid (show GL w3 w6 V vc L (openN q.pt (min (j+1 - 1) n)) from ⟨HI.out.own.keepB HK6.out (fun _ _ f=>f),HI.out.eq.trans HEQ.out.symm,HI.out.same.then HK6.out⟩)
       first | exact ⟨j+1,L,V,vc,by omega,by go_num,rfl,by omega,HF⟩ | ((repeat apply Exists.intro);refine And.intro ?_ rfl;exact ⟨j+1,L,V,vc,by omega,by go_num,rfl,by omega,HF⟩)
      case measure=>simp [RowKit.intOf];omega
    | some k =>
      obtain ⟨hkk,hkn⟩:=idx_some hi
      have hi2:idx p.R.length kv=some k:=by rw [HPN.out,←HN.out];exact hi
      have HF:=hid (fun W=>show Calls Tryz.prog 16 #[.agg q.cells.toArray,.int .i64 ((k:Int)+1)] W (fun e w'=>e=.returned (.int .i64 (k:Int))∧Same W w') from by
       have:=HFQ.out W
       unfold findI at this
       rw [←HN.out,hi,hkk] at this
       exact this)
      obtain ⟨x,y,hx,hy,hys,hl⟩:=HJr.out.two (k:=k) (by rw [←HN.out];exact hkn)
      have HAL:=hid (show x.s.ans.length≤200 from (HJ.out.ok.ln k x.pt hl).1.vl.n)
      have HOW:=hid (ownerX_some HJr.out.px hi2 hy HPL.out)
      have HST:=hid (fun W (hk:Same wr W)=>(stateX_some (HJr.out.px.same hk) hi2 hy HPL.out).mono (fun e w' h=>(⟨h.1,by rw [←h.2];exact Keep.refl _ _⟩:e=.returned (.int .i64 y.s.st)∧Same W w')))
      have HAN:=hid (fun W (hk:Same wr W)=>answersX_some (HJr.out.px.same hk) hi2 hy HPL.out (by rw [hys];have:=HAL.out;omega))
      unfold NI at HAN
      rw [hys,hkk,←HX.out] at HOW HST HAN
      have HXA:=hid (fun W (hk:Same wr W)=>((HJr.out.rx.same hk).lin x (List.mem_of_getElem? hx)).an.wide (Av':=fun _=>False) (fun _ _ f=>f.elim))
      have HOB:=hid (show opB q.pt k=(x.s.st != 5) from by unfold opB;rw [hl];rfl)
      have HXX:=hid hx
      have hk0:(0:Int)≤(k:Int):=Int.natCast_nonneg _
      have hk1:(k:Int)<(n:Int):=by omega
      have HKJ:=hid (show (k:Int)+1=lookN n j call by rw [←HKV.out,hkk])
      subst hkk
      clear hi hi2 HFQ hx hy hys hl
      go_upto_region 16 with (first
       | (refine wpList_load_row rfl _ (.tmp 8) rfl gy rfl _ q.cells.toArray (0,0) _ HL4.out Tryz.underlying35 rfl (by kernel_rfl) ?_)
       | (go_at_call 31;(with_reducible refine HOW.out.mono ?_);rintro e w4 ⟨rfl,hk4⟩;have HK4:=hid hk4;have HL4:=hid (HLr.out.keep hk4 (fun f=>f));clear hk4)
       | (go_at_call 16;(with_reducible refine (HF.out _).mono ?_);rintro e w5 ⟨rfl,hk5⟩;have HK5:=hid (HK4.out.then hk5);clear hk5))
      obtain ⟨rb,off,hLA,hrb,_,hrow⟩:=(HJr.out.rx.same HK5.out).L.at_ (by rw [←HN.out];omega)
      have HRG:=hid (mid_line (range_row hrow HXX.out))
      have z15:w5.cell? ⟨gy,15,none⟩=some (.slice q.LA n q.lc):=(HK5.out.cell (p:=⟨gy,15,none⟩) HLr.out.lt (fun f=>f)).trans y15
      rw [hLA] at z15
      have HZN:=hid (Blk.made w5 50 #[.int .i64 0,.int .i64 0,.int .i64 0,.int .i64 0,.int .i64 0,.string ⟨#[]⟩,.int .i64 0,.slice none 0 0])
      clear hLA hrow hrb y15
      go_upto_region 17 with (first
       | (refine wpList_load_mid rfl _ (.tmp 90) rfl rb (off+k * 11) rfl (x.s.cells x.A x.c) _ HRG.out Tryz.underlying50 rfl (by kernel_rfl) ?_)
       | (refine wpList_store_row rfl _ (.tmp 17) (.tmp 91) rfl w5.heap.size (x.s.cells x.A x.c).toArray rfl rfl _ _ HZN.out (by kernel_rfl) rfl (one_toArray (cl_one _ _ _)) ?_))
      have hb6:Blk ((w5.alloc (.cells #[.int .i64 0,.int .i64 0,.int .i64 0,.int .i64 0,.int .i64 0,.string ⟨#[]⟩,.int .i64 0,.slice none 0 0] 50)).setRow w5.heap.size (x.s.cells x.A x.c).toArray) w5.heap.size 50 (x.s.cells x.A x.c).toArray:=HZN.out.row _
      have hk6:Same w5 ((w5.alloc (.cells #[.int .i64 0,.int .i64 0,.int .i64 0,.int .i64 0,.int .i64 0,.string ⟨#[]⟩,.int .i64 0,.slice none 0 0] 50)).setRow w5.heap.size (x.s.cells x.A x.c).toArray):=((Keep.refl (fun _=>False) w5).alloc _).trans (Keep.row _ _ _) (fun j hj e=>by have e2:j=w5.heap.size:=e;omega)
      generalize ((w5.alloc (.cells #[.int .i64 0,.int .i64 0,.int .i64 0,.int .i64 0,.int .i64 0,.string ⟨#[]⟩,.int .i64 0,.slice none 0 0] 50)).setRow w5.heap.size (x.s.cells x.A x.c).toArray)=w6 at *
      obtain ⟨gz,hgz⟩:∃ g,g=w5.heap.size:=⟨_,rfl⟩
      rw [←hgz] at hb6 ⊢
      have HZ:=hid hb6
      have HK6:=hid (HK5.out.then hk6)
      clear hb6 hk6 hgz z15 HZN
      refine wp_region_held_drew (S:=fun W=>W.cell? ⟨gz,1,none⟩=some (.int .i64 x.s.st)∧W.cell? ⟨gz,3,none⟩=some (.int .i64 x.s.cen)∧W.cell? ⟨gz,4,none⟩=some (.int .i64 x.s.ep)∧W.cell? ⟨gz,7,none⟩=some (.slice x.A x.s.ans.length x.c)) (by kernel_rfl) ⟨(HZ.out.keep (Keep.refl (fun _=>False) w6).drew (fun f=>f)).at_ 1,(HZ.out.keep (Keep.refl (fun _=>False) w6).drew (fun f=>f)).at_ 3,(HZ.out.keep (Keep.refl (fun _=>False) w6).drew (fun f=>f)).at_ 4,(HZ.out.keep (Keep.refl (fun _=>False) w6).drew (fun f=>f)).at_ 7⟩ (fun hHeld=>?_)
      have HSd:=hid (fun W (hk:Same w6.drew W)=>show W.cell? ⟨gz,1,none⟩=some (.int .i64 x.s.st)∧W.cell? ⟨gz,3,none⟩=some (.int .i64 x.s.cen)∧W.cell? ⟨gz,4,none⟩=some (.int .i64 x.s.ep)∧W.cell? ⟨gz,7,none⟩=some (.slice x.A x.s.ans.length x.c) from ⟨((HZ.out.keep (Keep.refl (fun _=>False) w6).drew (fun f=>f)).keep hk (fun f=>f)).at_ 1,((HZ.out.keep (Keep.refl (fun _=>False) w6).drew (fun f=>f)).keep hk (fun f=>f)).at_ 3,((HZ.out.keep (Keep.refl (fun _=>False) w6).drew (fun f=>f)).keep hk (fun f=>f)).at_ 4,((HZ.out.keep (Keep.refl (fun _=>False) w6).drew (fun f=>f)).keep hk (fun f=>f)).at_ 7⟩)
      have HKd:=hid (HK6.out.then (Keep.refl (fun _=>False) w6).drew)
      generalize w6.drew=wd at *
      refine tk 0 ?_
      refine tk 1 ?_
      refine tk 2 ?_
      refine tk 3 ?_
      try simp only [bne_self_eq_false]
      refine tk 4 ?_
      refine tk 5 ?_
      refine tk 6 ?_
      refine tk 7 ?_
      refine tk 8 ?_
      try simp only [bne_self_eq_false]
      refine tk 9 ?_
      refine tk 10 ?_
      refine tk 11 ?_
      refine tk 12 ?_
      try simp only [Bool.not_true]
      refine tk 13 ?_
      refine tk 14 ?_
      refine tk 15 ?_
      refine tk 16 ?_
      refine tk 18 ?_
      refine tk 19 ?_
      refine rd1 17 (fun K hK=>?_)
      go_simp
      (with_reducible refine (HST.out _ HKd.out).mono ?_)
      rintro e8 w8 ⟨rfl,hk8⟩
      have HK8:=hid (HKd.out.then hk8)
      have HD8:=hid hk8
      clear hk8
      refine hK.out _ _ (HSd.out _ HD8.out) (fun hHeld8=>?_)
      clear hK K
      refine pput ?_
      refine tk 20 ?_
      try simp only [bne_self_eq_false]
      refine tk 21 ?_
      refine tk 22 ?_
      refine tk 23 ?_
      refine tk 24 ?_
      refine tk 26 ?_
      refine tk 27 ?_
      refine rd1 25 (fun K hK=>?_)
      go_simp
      (with_reducible refine (HAN.out _ HK8.out).mono ?_)
      rintro e9 w9 ⟨A9,c9,rfl,hs9,hk9⟩
      have HS9:=hid hs9
      have HK9:=hid (HK8.out.then hk9)
      have HD9:=hid (HD8.out.then hk9)
      clear hs9 hk9
      refine hK.out _ _ (HSd.out _ HD9.out) (fun hHeld9=>?_)
      clear hK K
      refine pput ?_
      refine rd1 28 (fun K hK=>?_)
      go_simp
      (with_reducible refine (numbersQ w9 (fun i=>i<w8.heap.size) (fun _=>False) A9 x.A c9 x.c x.s.ans HS9.out (HXA.out _ HK9.out) (by have:=HAL.out;omega)).mono ?_)
      rintro e10 w10 ⟨rfl,hk10⟩
      have HK10:=hid (HK9.out.then hk10)
      have HD10:=hid (HD9.out.then hk10)
      clear hk10
      refine hK.out _ _ (HSd.out _ HD10.out) (fun hHeld10=>?_)
      clear hK K
      refine pput ?_
      try simp only [Bool.not_true]
      refine tk 29 ?_
      refine tk 30 ?_
      refine wpAnyH_done (by kernel_rfl) ?_ _
      have HKF:=hid HK10.out
      have HSQ:=hid (HSd.out _ HD10.out)
      clear HK8 HK9 HK10 HD8 HD9 HD10 HS9 HKd HSd hHeld8 hHeld9 hHeld10
      have z1:w10.cell? ⟨gz,1,none⟩=some (.int .i64 x.s.st):=HSQ.out.1
      have y15:w10.cell? ⟨gy,15,none⟩=some (.slice q.LA n q.lc):=(HKF.out.cell (p:=⟨gy,15,none⟩) HLr.out.lt (fun f=>f)).trans ((HI.out.same.cell (p:=⟨gy,15,none⟩) HL.out.lt (fun f=>f)).trans HY15.out)
      clear HSQ
      by_cases hap:x.s.st≠5∧j≤n
      ·have d5:(x.s.st != 5)=true:=by simpa using hap.1
       have djn:decide ((j:Int)≤(n:Int))=true:=decide_eq_true (by omega)
       have hjk:(j:Int)=(k:Int)+1:=by
        have h2:=HKJ.out
        unfold lookN at h2
        rw [if_pos hap.2] at h2
        omega
       have HEQ:=hid (show openN q.pt (min (j+1 - 1) n)=openN q.pt (min (j - 1) n)++[(k:Int)+1] from by
        obtain rfl:j=k+1:=by omega
        rw [show min (k+1+1 - 1) n=k+1 by omega,show min (k+1 - 1) n=k by omega]
        exact openN_yes (by rw [HOB.out,d5]))
       have HOWN:=hid ((HI.out.own.keepB (HKF.out) (fun _ _ f=>f)).keepB ((Keep.refl (fun _=>False) w10).alloc (.cells #[.int .i64 ((k:Int)+1)] 2)) (fun _ _ f=>f))
       have HSC:=hid (src_new (w:=w10) (cs:=#[.int .i64 ((k:Int)+1)]) (t:=2) (news:=[.int .i64 ((k:Int)+1)]) rfl)
       have HSZ:=hid (show w3.heap.size≤(w10.alloc (.cells #[.int .i64 ((k:Int)+1)] 2)).heap.size from ((HI.out.same.then HKF.out).alloc _).size)
       clear hap
       go_wp2_with (first
        | (at_builtin
           refine EI64.law2 (.tmp 133) (.tmp 135) (.slice V L.length vc) (some ⟨w10.heap.size,0,none⟩) 1 1 rfl rfl rfl rfl w3.heap.size L.length (icells L) [.int .i64 ((k:Int)+1)] (L.length+1) (icells (L++[(k:Int)+1])) rfl (by simp [icells]) HOWN.out rfl (fun _=>⟨_,rfl,HSC.out⟩) (by intro u hu;rw [List.mem_singleton] at hu;subst hu;rfl) (by omega) (by unfold maxLen;omega) HSZ.out ?_
           intro A7 c7 w7 ho7 hg7 hw7
           have HO7:=hid ho7
           have HK7:=hid (((HI.out.same.then HKF.out).alloc (.cells #[.int .i64 ((k:Int)+1)] 2)).app HOWN.out hg7 (fun g h1 h2=>by omega))
           clear ho7 hg7 hw7))
       go_roundw
       case rel =>
        have HF:=hid (show GL w3 w7 A7 c7 (L++[(k:Int)+1]) (openN q.pt (min (j+1 - 1) n)) from ⟨by rw [List.length_append,List.length_singleton];exact HO7.out,by rw [HEQ.out,←HI.out.eq],HK7.out⟩)
        first | exact ⟨j+1,L++[(k:Int)+1],A7,c7,by omega,by go_num,by simp,by simp;omega,HF⟩ | ((repeat apply Exists.intro);refine And.intro ?_ rfl;exact ⟨j+1,L++[(k:Int)+1],A7,c7,by omega,by go_num,by simp,by simp;omega,HF⟩)
       case measure=>simp [RowKit.intOf];omega
      ·have HEQ:=hid (show openN q.pt (min (j+1 - 1) n)=openN q.pt (min (j - 1) n) from by
        have h2:=HKJ.out
        unfold lookN at h2
        by_cases h3:j≤n
        ·rw [if_pos h3] at h2
         obtain rfl:j=k+1:=by omega
         rw [show min (k+1+1 - 1) n=k+1 by omega,show min (k+1 - 1) n=k by omega]
         refine openN_no ?_
         rw [HOB.out]
         have:x.s.st=5:=by omega
         simp [this]
        ·rw [show min (j+1 - 1) n=min (j - 1) n by omega])
       have HF:=hid (show GL w3 w10 V vc L (openN q.pt (min (j+1 - 1) n)) from ⟨HI.out.own.keepB HKF.out (fun _ _ f=>f),HI.out.eq.trans HEQ.out.symm,HI.out.same.then HKF.out⟩)
       by_cases s5:x.s.st=5
       ·have d5:(x.s.st != 5)=false:=by simp [s5]
        clear s5 hap
        go_wp2_with fail
        go_roundw
        case rel =>
         first | exact ⟨j+1,L,V,vc,by omega,by go_num,rfl,by omega,HF⟩ | ((repeat apply Exists.intro);refine And.intro ?_ rfl;exact ⟨j+1,L,V,vc,by omega,by go_num,rfl,by omega,HF⟩)
        case measure=>simp [RowKit.intOf];omega
       ·have d5:(x.s.st != 5)=true:=by simpa using s5
        have djn:decide ((j:Int)≤(n:Int))=false:=decide_eq_false (by omega)
        have djm:decide (j≤n)=false:=decide_eq_false (by omega)
        have djk:(n:Int)<(j:Int):=by omega
        clear s5 hap
        go_wp2_with fail
        go_roundw
        case rel =>
         first | exact ⟨j+1,L,V,vc,by omega,by go_num,rfl,by omega,HF⟩ | ((repeat apply Exists.intro);refine And.intro ?_ rfl;exact ⟨j+1,L,V,vc,by omega,by go_num,rfl,by omega,HF⟩)
        case measure=>simp [RowKit.intOf];omega
   ·have hj2:(n:Int)+1<(j:Int):=by omega
    have HJr:=hid (HJ.out.same HI.out.same)
    have hLO:L=q.pt.opens:=by
     rw [HI.out.eq]
     unfold XS.opens
     have:q.pt.L.length=q.R.length:=by simp [QS.pt]
     rw [this,←HN.out]
     congr 1
     omega
    have HCA:=hid (callsX HJr.out.px (by rw [HPN.out,←HN.out];omega))
    have HOP:=hid (fun W (hk:Same wr W)=>opensX (HJr.out.px.same hk) (by rw [HPN.out,←HN.out];omega))
    unfold NI at HCA HOP
    rw [HPN.out,←HN.out,←HX.out,callsN_len] at HCA
    rw [HJ.out.eq,←HX.out,←hLO] at HOP
    have HLL:=hid (HI.out.own.slN)
    have HKI:=hid HI.out.same
    clear hLO HI
    go_upto_region 22 with (first
     | (go_at_call 30;(with_reducible refine HCA.out.mono ?_);rintro e w4 ⟨A1,c1,rfl,hs1,hk1⟩;have HS1:=hid hs1;have HK4:=hid hk1;clear hs1 hk1)
     | (go_at_call 25;(with_reducible refine (HOP.out _ HK4.out).mono ?_);rintro e w5 ⟨A2,c2,rfl,hs2,hk2⟩;have HS2:=hid hs2;have HK5:=hid hk2;clear hs2 hk2))
    have HS3:=hid (HLL.out.same (HK4.out.then HK5.out))
    have HS4:=hid (HS1.out.same HK5.out)
    have HK45:=hid ((((HW.out.then HK2.out).then HK3.out).then HKI.out).then (HK4.out.then HK5.out))
    have HJ5:=hid (HJr.out.same (HK4.out.then HK5.out))
    have HL5:=hid (HL.out.keep (HKI.out.then (HK4.out.then HK5.out)) (fun f=>f))
    have y15:w5.cell? ⟨gy,15,none⟩=some (.slice q.LA q.R.length q.lc):=HL5.out.at_ 15
    rw [←HN.out] at y15
    clear HLL HS1 HCA HOP HK4 HK5 HKI HJr
    go_wp2_with fail
    go_loopw [156] (fun i wb=>∃ j:Nat,j≤n∧i=.int .i64 j∧Hid (Same w5 wb)) (fun i _=>n - (RowKit.intOf i).toNat)
    case atStart=>exact ⟨0,Nat.zero_le _,rfl,hid (Keep.refl _ _)⟩
    case round =>
     obtain ⟨j,hj,rfl,HI⟩:=hrel
     have hj0:(0:Int)≤(j:Int):=Int.natCast_nonneg _
     have hn41:(n:Int)≤40:=by omega
     by_cases hjn:j<n
     ·have hj1:(j:Int)<(n:Int):=by omega
      have hwr:IntKind.i64.wrap ((j:Int)+1)=(j:Int)+1:=IntWalk.i64_in _ ⟨by omega,by omega⟩
      obtain ⟨b1,o1,hB1,_,y1⟩:=int_at (HS4.out.same HI.out) (k:=j) (a:=(j:Int)+1) (by simp [callsN,hjn])
      subst hB1
      by_cases hjo:j<L.length
      ·have djo:decide ((j:Int)<(L.length:Int))=true:=decide_eq_true (by omega)
       have djm:decide (j<L.length)=true:=decide_eq_true hjo
       have hj2:(j:Int)<(L.length:Int):=by omega
       obtain ⟨v,hv⟩:=get_some hjo
       obtain ⟨b2,o2,hB2,_,y2⟩:=int_at (HS2.out.same HI.out) hv
       obtain ⟨b3,o3,hB3,_,y3⟩:=int_at (HS3.out.same HI.out) hv
       subst hB2
       subst hB3
       clear hv hjo
       go_upto_region 27 with fail
       refine wp_region_held_drew (S:=fun W=>W.cell? ⟨b1,o1+j,none⟩=some (.int .i64 ((j:Int)+1))∧W.cell? ⟨b2,o2+j,none⟩=some (.int .i64 v)∧W.cell? ⟨b3,o3+j,none⟩=some (.int .i64 v)) (by kernel_rfl) ⟨y1,y2,y3⟩ (fun hHeld=>?_)
       refine tk 0 ?_
       refine tk 1 ?_
       refine tk 2 ?_
       refine tk 3 ?_
       refine tk 4 ?_
       refine tk 5 ?_
       try simp only [hwr]
       refine tk 6 ?_
       try simp only [bne_self_eq_false]
       refine tk 7 ?_
       refine tk 8 ?_
       refine tk 9 ?_
       refine tk 10 ?_
       refine tk 11 ?_
       try simp only [djo,djm]
       refine tk 12 ?_
       refine tk 13 ?_
       refine tk 14 ?_
       refine tk 15 ?_
       refine tk 16 ?_
       refine tk 17 ?_
       refine tk 18 ?_
       refine tk 19 ?_
       refine tk 20 ?_
       refine tk 21 ?_
       try simp only [bne_self_eq_false]
       refine tk 22 ?_
       refine tk 23 ?_
       refine wpAnyH_done (by kernel_rfl) ?_ _
       go_wp2_with fail
       go_roundw
       case rel =>
        first | exact ⟨j+1,by omega,by go_num,hid (HI.out.drew)⟩ | ((repeat apply Exists.intro);refine And.intro ?_ rfl;exact ⟨j+1,by omega,by go_num,hid (HI.out.drew)⟩)
       case measure=>simp [RowKit.intOf];omega
      ·have djo:decide ((j:Int)<(L.length:Int))=false:=decide_eq_false (by omega)
       have djm:decide (j<L.length)=false:=decide_eq_false hjo
       clear hjo
       go_upto_region 27 with fail
       refine wp_region_held_drew (S:=fun W=>W.cell? ⟨b1,o1+j,none⟩=some (.int .i64 ((j:Int)+1))) (by kernel_rfl) y1 (fun hHeld=>?_)
       refine tk 0 ?_
       refine tk 1 ?_
       refine tk 2 ?_
       refine tk 3 ?_
       refine tk 4 ?_
       refine tk 5 ?_
       try simp only [hwr]
       refine tk 6 ?_
       try simp only [bne_self_eq_false]
       refine tk 7 ?_
       refine tk 8 ?_
       refine tk 9 ?_
       refine tk 10 ?_
       refine tk 11 ?_
       try simp only [djo,djm]
       refine tk 12 ?_
       refine tu 13 ?_
       refine tu 14 ?_
       refine tu 15 ?_
       refine tu 16 ?_
       refine tu 17 ?_
       refine tu 18 ?_
       refine tu 19 ?_
       refine tu 20 ?_
       refine tu 21 ?_
       refine tk 22 ?_
       refine tk 23 ?_
       refine wpAnyH_done (by kernel_rfl) ?_ _
       go_wp2_with fail
       go_roundw
       case rel =>
        first | exact ⟨j+1,by omega,by go_num,hid (HI.out.drew)⟩ | ((repeat apply Exists.intro);refine And.intro ?_ rfl;exact ⟨j+1,by omega,by go_num,hid (HI.out.drew)⟩)
       case measure=>simp [RowKit.intOf];omega
     ·obtain rfl:j=n:=by omega
      have h1:1≤q.c.cen:=HJ.out.ok.c1
      have h9:q.c.cen≤9:=HJ.out.ok.c9
      obtain ⟨N,hN⟩:∃ N:Nat,q.c.cen=(N:Int):=⟨q.c.cen.toNat,by omega⟩
      have hN9:N≤9:=by omega
      have hwl:q.who.length=N:=by have h:(q.who.length:Int)=q.c.cen:=HJ.out.ok.wl;omega
      have hel:q.ep.length=N:=by have h:(q.ep.length:Int)=q.c.cen:=HJ.out.ok.el;omega
      have HHL:=hid (show p.hold.length=N from by
       have h1:=congrArg (fun X=>X.who.length) HJ.out.eq
       have h2:p.hold.length=q.who.length:=by simpa [PS.pt,QS.pt] using h1
       omega)
      have y0:w5.cell? ⟨gy,0,none⟩=some (.int .i64 q.c.cen):=HL5.out.at_ 0
      have y16:w5.cell? ⟨gy,16,none⟩=some (.slice q.WA q.who.length q.wc):=HL5.out.at_ 16
      have y17:w5.cell? ⟨gy,17,none⟩=some (.slice q.EA q.ep.length q.ec):=HL5.out.at_ 17
      rw [hN] at y0
      rw [hwl] at y16
      rw [hel] at y17
      have HYY:=hid (fun W (hk:Same w5 W)=>show W.cell? ⟨gy,0,none⟩=some (.int .i64 N)∧W.cell? ⟨gy,16,none⟩=some (.slice q.WA N q.wc)∧W.cell? ⟨gy,17,none⟩=some (.slice q.EA N q.ec) from
       ⟨(hk.cell (p:=⟨gy,0,none⟩) HL5.out.lt (fun f=>f)).trans y0,(hk.cell (p:=⟨gy,16,none⟩) HL5.out.lt (fun f=>f)).trans y16,(hk.cell (p:=⟨gy,17,none⟩) HL5.out.lt (fun f=>f)).trans y17⟩)
      have HWE:=hid (And.intro hwl hel)
      clear y0 y16 y17 h1 h9 hN hwl hel
      go_wp2_with fail
      go_loopw [21] (fun i wc=>∃ d:Int,-1≤d∧d≤(N:Int)+1∧i=.int .i64 d∧Hid (Same w5 wc)) (fun i _=>((N:Int)+2 - RowKit.intOf i).toNat)
      case atStart=>exact ⟨-1,by omega,by omega,rfl,HI⟩
      case round =>
       obtain ⟨d,hd0,hd1,rfl,HC⟩:=hrel
       have hN9:(N:Int)≤9:=by omega
       have HJc:=hid (HJ5.out.same HC.out)
       have y0:=(HYY.out _ HC.out).1
       by_cases hd:d≤(N:Int)
       ·have dd:decide (d≤(N:Int))=true:=decide_eq_true hd
        by_cases hno:d<0∨(N:Int)≤d
        ·have HHO:=hid (fun W (hk:Same wr W)=>holderX_no (HJc.out.px.same hk) (d:=d) (by rw [HHL.out];exact hno) (by rw [HHL.out];omega))
         rw [←HX.out] at HHO
         by_cases h0:d<0
         ·have d1:decide (d<0)=true:=decide_eq_true h0
          clear hno
          go_wp2_with (go_at_call 32;(with_reducible refine (HHO.out _ (Keep.refl _ _)).mono ?_);rintro e w7 ⟨rfl,hw7⟩;subst hw7)
          go_roundw
          case rel =>
           first | exact ⟨d+1,by omega,by omega,by go_num,HC⟩ | ((repeat apply Exists.intro);refine And.intro ?_ rfl;exact ⟨d+1,by omega,by omega,by go_num,HC⟩)
          case measure=>simp [RowKit.intOf];omega
         ·have d1:decide (d<0)=false:=decide_eq_false h0
          have d2:decide ((N:Int)≤d)=true:=decide_eq_true (by omega)
          clear hno
          go_wp2_with (go_at_call 32;(with_reducible refine (HHO.out _ (Keep.refl _ _)).mono ?_);rintro e w7 ⟨rfl,hw7⟩;subst hw7)
          go_roundw
          case rel =>
           first | exact ⟨d+1,by omega,by omega,by go_num,HC⟩ | ((repeat apply Exists.intro);refine And.intro ?_ rfl;exact ⟨d+1,by omega,by omega,by go_num,HC⟩)
          case measure=>simp [RowKit.intOf];omega
        ·obtain ⟨dn,rfl⟩:∃ dn:Nat,d=(dn:Int):=⟨d.toNat,by omega⟩
         have hdn:dn<N:=by omega
         have hdl:(dn:Int)<(N:Int):=by omega
         have d1:decide ((dn:Int)<0)=false:=decide_eq_false (by omega)
         have d2:decide ((N:Int)≤(dn:Int))=false:=decide_eq_false (by omega)
         obtain ⟨a,hwa⟩:=get_some (l:=q.who) (k:=dn) (by rw [HWE.out.1];exact hdn)
         obtain ⟨b,hwb⟩:=get_some (l:=q.ep) (k:=dn) (by rw [HWE.out.2];exact hdn)
         have HHO:=hid (holderX HJc.out.px (d:=dn) (a:=(a,b)) (ps_hold HJ.out.eq hwa hwb) (by rw [HHL.out];omega))
         rw [←HX.out] at HHO
         obtain ⟨b1,o1,hB1,hl1,z1⟩:=int_at HJc.out.rx.who hwa
         obtain ⟨b2,o2,hB2,hl2,z2⟩:=int_at HJc.out.rx.ep hwb
         have HCY:=hid (fun W (hk:Same wr W)=>HYY.out _ (HC.out.then hk))
         rw [hB1,hB2] at HCY
         clear hno hwa hwb hB1 hB2
         go_upto_region 34 with (go_at_call 32;(with_reducible refine HHO.out.mono ?_);rintro e w7 ⟨rfl,hk7⟩;have HK7:=hid hk7;clear hk7)
         have y0:=(HCY.out _ HK7.out).1
         have y16:=(HCY.out _ HK7.out).2.1
         have y17:=(HCY.out _ HK7.out).2.2
         have z1:=(HK7.out.cell (p:=⟨b1,o1+dn,none⟩) hl1 (fun f=>f)).trans z1
         have z2:=(HK7.out.cell (p:=⟨b2,o2+dn,none⟩) hl2 (fun f=>f)).trans z2
         clear hl1 hl2 HHO
         go_wp2_with fail
         go_roundw
         case rel =>
          first | exact ⟨dn+1,by omega,by omega,by go_num,hid (HC.out.then HK7.out)⟩ | ((repeat apply Exists.intro);refine And.intro ?_ rfl;exact ⟨dn+1,by omega,by omega,by go_num,hid (HC.out.then HK7.out)⟩)
         case measure=>simp [RowKit.intOf];omega
       ·have dd:decide (d≤(N:Int))=false:=decide_eq_false hd
        go_wp2_with (go_at_call 10;(with_reducible refine (HAW.out _).mono ?_);rintro e w8 ⟨rfl,hk8⟩;have HK8:=hid hk8;clear hk8)
        go_ret
        exact ⟨rfl,(HK45.out.then HC.out).then HK8.out⟩
end Go.Proofs.YtbjddfiledoaoaaGreat

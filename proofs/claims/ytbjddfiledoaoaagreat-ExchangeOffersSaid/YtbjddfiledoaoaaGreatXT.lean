import Derived.Test.YtbjddfiledoaoaaGreatXM
namespace Go.Proofs.YtbjddfiledoaoaaGreat
open Go.RowKit
def XS.ansE (X:XS) (call a now:Int):Int:=if vN now 0=true then (match idx X.L.length call with | none=>4 | some k=>match X.L[k]? with | some l=>sayE l.s a | none=>4) else 1
def XS.ansS (X:XS) (call a now:Int):XS:=if X.ansE call a now=0 then (match idx X.L.length call with | none=>X | some k=>match X.L[k]? with | some l=>((X.put k { l with s:=sayS l.s a }).evt ⟨4,now,0,call,0,a⟩).offer k { l with s:=sayS l.s a } now | none=>X) else X
def XS.hangE (X:XS) (call now:Int):Int:=if vN now 0=true then (match idx X.L.length call with | none=>4 | some k=>match X.L[k]? with | some l=>Go.Proofs.YtbjddfiledoaoaaGreat.hangE l.s now | none=>4) else 1
def XS.hangS (X:XS) (call now:Int):XS:=if X.hangE call now=0 then (match idx X.L.length call with | none=>X | some k=>match X.L[k]? with | some l=>((X.put k { l with s:=Go.Proofs.YtbjddfiledoaoaaGreat.hangS l.s now }).evt ⟨5,now,0,call,0,0⟩).offer k { l with s:=Go.Proofs.YtbjddfiledoaoaaGreat.hangS l.s now } now | none=>X) else X
theorem ev_app (l:List Ev) (y:Ev):l.flatMap Ev.cells++y.cells=(l++[y]).flatMap Ev.cells:=by rw [List.flatMap_append,List.flatMap_singleton]
theorem PS.pt_len (p:PS):p.pt.L.length=p.R.length:=by simp [PS.pt]
theorem PS.pt_at {p:PS} {k:Nat} {x:RA} (h:p.R[k]? = some x):p.pt.L[k]? = some x.pt:=by simp [PS.pt,h]
theorem PP.self {w:World} {T:Tags} {p:PS} (h:PX w T p):PP w T p.x p.lv p.pt w:=⟨p,T,fun _=>False,rfl,rfl,rfl,h,Mv.same (Keep.refl _ _) h.lt,fun _ f=>f.elim⟩
theorem pt_set {p:PS} {k:Nat} {x x2:RA} (hx:p.R[k]? = some x) (h:x2.pt=x.pt):({ p with R:=p.R.set k x2 }:PS).pt=p.pt:=by
 unfold PS.pt
 simp only [List.map_set,h]
 congr 1
 apply List.ext_getElem?
 intro i
 rw [List.getElem?_set]
 by_cases e:k=i
 ·subst e
  rw [if_pos rfl,if_pos (by simpa using (List.getElem?_eq_some_iff.1 hx).1),List.getElem?_map,hx];rfl
 ·rw [if_neg e]
theorem LnOk.to {l:Ln} (h:LnOk l) {s:CL} (hs:VL s):LnOk { l with s:=s }:=⟨hs,h.la,h.d,h.src⟩
section
variable {w:World} {T:Tags} {p:PS}
set_option maxHeartbeats 8000000 in
set_option maxRecDepth 100000 in
theorem answerX (h:PX w T p) (hok:∀ (k:Nat) (x:RA),p.R[k]? = some x→LnOk x.pt) (hl:p.R.length≤1000000) (hn:p.out.length≤1000000) (hne:p.ev.length≤1000000) (call a now:Int) :
 Calls Tryz.prog 60 #[.pointer (some ⟨p.x,0,none⟩),.int .i64 call,.int .i64 a,.int .i64 now] w (PPost w T p.x p.lv (p.pt.ansS call a now) (.int .i64 (p.pt.ansE call a now))):=by
 have HX:=hid h
 cases hv:vN now 0 with
 | false =>
   have HE:=hid (show p.pt.ansE call a now=1 from by unfold XS.ansE;rw [if_neg (by simp [hv])])
   have HS:=hid (show p.pt.ansS call a now=p.pt from by unfold XS.ansS;rw [HE.out,if_neg (by decide)])
   clear h
   go_enter Tryz.func60,Tryz.ntmps60
   go_wp2_with (go_at_call 36;(with_reducible refine (vtick_any _ _).mono ?_);rintro e1 w1 ⟨rfl,rfl⟩;rw [hv])
   go_ret
   exact ⟨by rw [HE.out];rfl,by rw [HS.out];exact PP.self HX.out⟩
 | true =>
   cases hi:idx p.R.length call with
   | none =>
     have HE:=hid (show p.pt.ansE call a now=4 from by unfold XS.ansE;rw [if_pos hv,PS.pt_len,hi])
     have HS:=hid (show p.pt.ansS call a now=p.pt from by unfold XS.ansS;rw [HE.out,if_neg (by decide)])
     have HF:=hid (find_none h (idx_none hi) hl)
     clear h hi
     go_enter Tryz.func60,Tryz.ntmps60
     go_wp2_with (first | (go_at_call 36;(with_reducible refine (vtick_any _ _).mono ?_);rintro e1 w1 ⟨rfl,rfl⟩;rw [hv]) | (go_at_call 38;(with_reducible refine HF.out.mono ?_);rintro e1 w1 ⟨rfl,rfl⟩))
     go_ret
     exact ⟨by rw [HE.out];rfl,by rw [HS.out];exact PP.self HX.out⟩
   | some k =>
     obtain ⟨h1,h2⟩:=idx_some hi
     obtain ⟨x,hx⟩:=get_some h2
     have HXX:=hid hx
     have HF:=hid (find_some h hx h1 hl)
     have hr:=h.recs k x hx
     have HR:=hid hr
     have z0:w.cell? ⟨x.rb,0,none⟩=some (.pointer (some ⟨x.lb,0,none⟩)):=(hr.blk.at_ 0).trans rfl
     have HE:=hid (show p.pt.ansE call a now=sayE x.s a from by unfold XS.ansE;rw [if_pos hv,PS.pt_len,hi];simp only [PS.pt_at hx];rfl)
     have HS:=hid (show sayE x.s a=0→p.pt.ansS call a now=((p.pt.put k { x.pt with s:=sayS x.s a }).evt (⟨4,now,0,call,0,a⟩:Ev)).offer k { x.pt with s:=sayS x.s a } now from fun e0=>by unfold XS.ansS;rw [if_pos (by rw [HE.out];exact e0),PS.pt_len,hi];simp only [PS.pt_at hx];rfl)
     have HN:=hid (show ¬sayE x.s a=0→p.pt.ansS call a now=p.pt from fun e0=>by unfold XS.ansS;rw [if_neg (by rw [HE.out];exact e0)])
     have HU:=hid (show ¬sayE x.s a=0→sayS x.s a=x.s from fun e0=>by unfold Go.Proofs.YtbjddfiledoaoaaGreat.sayS;rw [if_neg e0])
     have HLO:=hid (show LnOk { x.pt with s:=sayS x.s a } from (hok k x hx).to (say_vl (hok k x hx).vl a))
     have HLA:=hid (say_any w x.lb x.r x.A x.c x.s hr.line a)
     rw [HE.out]
     generalize sayE x.s a=er at *
     generalize sayS x.s a=s2 at *
     clear h hi hx hr hok h1 h2
     go_enter Tryz.func60,Tryz.ntmps60
     by_cases e0:er=0
     ·have d0:(er != 0)=false:=by simp [e0]
      have HS:=hid (HS.out e0)
      have E0:=hid e0
      clear e0
      go_upto_region 7 with (first
       | (go_at_call 36;(with_reducible refine (vtick_any _ _).mono ?_);rintro e1 w1 ⟨rfl,rfl⟩;rw [hv])
       | (go_at_call 38;(with_reducible refine HF.out.mono ?_);rintro e1 w1 ⟨rfl,rfl⟩)
       | (go_at_call 106;(with_reducible refine HLA.out.mono ?_);rintro e1 w2 hp
          obtain ⟨rfl,x2,T2,S2,i1,i2,i3,i4,i5,i6,i7,i8,hx2,hm2,hs2⟩:=HX.out.lop HXX.out hp
          have HX2:=hid hx2
          have HM2:=hid hm2
          have HS2:=hid hs2
          have HI:=hid (And.intro i1 (And.intro i3 (And.intro i4 (And.intro i5 i6))))
          have c6:w2.cell? ⟨p.x,6,none⟩=some p.evv:=(hx2.hdr.at_ 6).trans rfl
          clear hp hx2 hm2 hs2 i1 i2 i3 i4 i5 i6 i7 i8))
      have HXA:=hid (HX2.out.same ((Keep.refl (fun _=>False) w2).alloc (.cells #[.int .i64 4,.int .i64 now,.int .i64 0,.int .i64 call,.int .i64 0,.int .i64 a,.int .i64 0,.int .i64 0,.slice none 0 0,.int .i64 0,.int .i64 0,.int .i64 0,.int .i64 0,.int .i64 0,.int .i64 0,.int .i64 0,.int .i64 0,.int .i64 0,.int .i64 0,.int .i64 0,.int .i64 0,.int .i64 0,.int .i64 0,.int .i64 0,.int .i64 0,.slice none 0 0,.slice none 0 0,.slice none 0 0] 104)))
      have HSR:=hid (src_new (w:=w2) (cs:=#[.int .i64 4,.int .i64 now,.int .i64 0,.int .i64 call,.int .i64 0,.int .i64 a,.int .i64 0,.int .i64 0,.slice none 0 0,.int .i64 0,.int .i64 0,.int .i64 0,.int .i64 0,.int .i64 0,.int .i64 0,.int .i64 0,.int .i64 0,.int .i64 0,.int .i64 0,.int .i64 0,.int .i64 0,.int .i64 0,.int .i64 0,.int .i64 0,.int .i64 0,.slice none 0 0,.slice none 0 0,.slice none 0 0]) (t:=104) (news:=((⟨4,now,0,call,0,a⟩:Ev):Ev).cells) rfl)
      have HLK:=hid (List.getElem?_eq_some_iff.1 HXX.out).1
      have HXP:=hid (show x2.pt={ x.pt with s:=s2 } from by simp only [RA.pt,HI.out.2.1,HI.out.2.2.1,HI.out.2.2.2.1,HI.out.2.2.2.2])
      go_wp2_with (first
       | (at_builtin
          refine EEv.law2 (.tmp 32) (.tmp 37) p.evv (some ⟨w2.heap.size,0,none⟩) 1 1 rfl rfl rfl rfl 0 p.ev.length (p.ev.flatMap Ev.cells) (((⟨4,now,0,call,0,a⟩:Ev):Ev).cells) (p.ev.length+1) _ rfl (ev_app p.ev (⟨4,now,0,call,0,a⟩:Ev)) HXA.out.ev.own rfl (fun _=>⟨_,rfl,HSR.out⟩) (ev_one _) (by omega) (by unfold maxLen;omega) (Nat.zero_le _) ?_
          intro A7 c7 w7 ho7 hg7 hw7
          have hgr:=HXA.out.grow_ev (y:=(⟨4,now,0,call,0,a⟩:Ev)) hg7 ho7 (own_or hw7)
          have HX7:=hid hgr.1
          have HM7:=hid hgr.2
          have HT7:=hid (grow_tags HXA.out HXA.out.ev)
          have hh7:=grow_hdr HXA.out HXA.out.ev hg7 (fun h=>by cases h)
          have c6:w7.cell? ⟨p.x,6,none⟩=some p.evv:=(hh7.at_ 6).trans rfl
          have f6:=hh7.free 6
          have hof:=offer_any HX7.out (k:=k) (x:=x2) (by rw [List.getElem?_set_self HLK.out]) (by rw [HXP.out];exact HLO.out) hn now
          rw [HI.out.1] at hof
          have HOF:=hid hof
          clear hof
          clear ho7 hg7 hw7 hgr hh7)
       | (go_at_call 46;(with_reducible refine HOF.out.mono ?_);rintro e1 w3 ⟨rfl,hP⟩;have HP:=hid hP;clear hP))
      go_ret
      have hm4:=HM2.out.wide (S2:=fun i=>T.on i) (fun i hi=>by rcases HS2.out i hi with e | e <;> exact Tags.on_of e (fun h=>by cases h))
      have hm5:=hm4.comp (fun _ h=>h) (((Mv.same ((Keep.refl _ w2).alloc _) HX2.out.lt).wide (fun _ f=>f.elim)).trans HM7.out (fun _ _ h=>h)) (tags_on HT7.out (fun h=>by cases h))
      refine ⟨by rw [E0.out];rfl,?_⟩
      rw [HS.out]
      have:=PP.after hm5 (fun _ h=>h) HP.out
      have e8:(({ p with R:=p.R.set k x2,ev:=p.ev++[(⟨4,now,0,call,0,a⟩:Ev)],evv:=.slice A7 (p.ev.length+1) c7 }:PS).pt.offer k x2.pt now)=((p.pt.put k { x.pt with s:=s2 }).evt (⟨4,now,0,call,0,a⟩:Ev)).offer k { x.pt with s:=s2 } now:=by
       rw [HXP.out]
       simp [PS.pt,XS.put,XS.evt,XS.offer,List.map_set,HXP.out]
      rw [←e8]
      exact this
     ·have d0:(er != 0)=true:=by simpa using e0
      have HN:=hid (HN.out e0)
      have HU:=hid (HU.out e0)
      clear e0
      go_wp2_with (first
       | (go_at_call 36;(with_reducible refine (vtick_any _ _).mono ?_);rintro e1 w1 ⟨rfl,rfl⟩;rw [hv])
       | (go_at_call 38;(with_reducible refine HF.out.mono ?_);rintro e1 w1 ⟨rfl,rfl⟩)
       | (go_at_call 106;(with_reducible refine HLA.out.mono ?_);rintro e1 w2 hp
          obtain ⟨rfl,x2,T2,S2,i1,i2,i3,i4,i5,i6,i7,i8,hx2,hm2,hs2⟩:=HX.out.lop HXX.out hp
          have HX2:=hid hx2
          have HM2:=hid hm2
          have HS2:=hid hs2
          have HI:=hid (And.intro i1 (And.intro i3 (And.intro i4 (And.intro i5 i6))))
          clear hp hx2 hm2 hs2 i1 i2 i3 i4 i5 i6 i7 i8))
      go_ret
      refine ⟨rfl,?_⟩
      rw [HN.out]
      refine PP.mk HX2.out rfl rfl (pt_set HXX.out ?_) HM2.out (fun i hi=>by rcases HS2.out i hi with e | e <;> exact Tags.on_of e (fun h=>by cases h))
      simp only [RA.pt,HI.out.2.1,HI.out.2.2.1,HI.out.2.2.2.1,HI.out.2.2.2.2,HU.out]
set_option maxHeartbeats 8000000 in
set_option maxRecDepth 100000 in
theorem hangX (h:PX w T p) (hok:∀ (k:Nat) (x:RA),p.R[k]? = some x→LnOk x.pt) (hl:p.R.length≤1000000) (hn:p.out.length≤1000000) (hne:p.ev.length≤1000000) (call now:Int) :
 Calls Tryz.prog 62 #[.pointer (some ⟨p.x,0,none⟩),.int .i64 call,.int .i64 now] w (PPost w T p.x p.lv (p.pt.hangS call  now) (.int .i64 (p.pt.hangE call  now))):=by
 have HX:=hid h
 cases hv:vN now 0 with
 | false =>
   have HE:=hid (show p.pt.hangE call  now=1 from by unfold XS.hangE;rw [if_neg (by simp [hv])])
   have HS:=hid (show p.pt.hangS call  now=p.pt from by unfold XS.hangS;rw [HE.out,if_neg (by decide)])
   clear h
   go_enter Tryz.func62,Tryz.ntmps62
   go_wp2_with (go_at_call 36;(with_reducible refine (vtick_any _ _).mono ?_);rintro e1 w1 ⟨rfl,rfl⟩;rw [hv])
   go_ret
   exact ⟨by rw [HE.out];rfl,by rw [HS.out];exact PP.self HX.out⟩
 | true =>
   cases hi:idx p.R.length call with
   | none =>
     have HE:=hid (show p.pt.hangE call  now=4 from by unfold XS.hangE;rw [if_pos hv,PS.pt_len,hi])
     have HS:=hid (show p.pt.hangS call  now=p.pt from by unfold XS.hangS;rw [HE.out,if_neg (by decide)])
     have HF:=hid (find_none h (idx_none hi) hl)
     clear h hi
     go_enter Tryz.func62,Tryz.ntmps62
     go_wp2_with (first | (go_at_call 36;(with_reducible refine (vtick_any _ _).mono ?_);rintro e1 w1 ⟨rfl,rfl⟩;rw [hv]) | (go_at_call 38;(with_reducible refine HF.out.mono ?_);rintro e1 w1 ⟨rfl,rfl⟩))
     go_ret
     exact ⟨by rw [HE.out];rfl,by rw [HS.out];exact PP.self HX.out⟩
   | some k =>
     obtain ⟨h1,h2⟩:=idx_some hi
     obtain ⟨x,hx⟩:=get_some h2
     have HXX:=hid hx
     have HF:=hid (find_some h hx h1 hl)
     have hr:=h.recs k x hx
     have HR:=hid hr
     have z0:w.cell? ⟨x.rb,0,none⟩=some (.pointer (some ⟨x.lb,0,none⟩)):=(hr.blk.at_ 0).trans rfl
     have HE:=hid (show p.pt.hangE call  now=Go.Proofs.YtbjddfiledoaoaaGreat.hangE x.s now from by unfold XS.hangE;rw [if_pos hv,PS.pt_len,hi];simp only [PS.pt_at hx];rfl)
     have HS:=hid (show Go.Proofs.YtbjddfiledoaoaaGreat.hangE x.s now=0→p.pt.hangS call  now=((p.pt.put k { x.pt with s:=Go.Proofs.YtbjddfiledoaoaaGreat.hangS x.s now }).evt (⟨5,now,0,call,0,0⟩:Ev)).offer k { x.pt with s:=Go.Proofs.YtbjddfiledoaoaaGreat.hangS x.s now } now from fun e0=>by unfold XS.hangS;rw [if_pos (by rw [HE.out];exact e0),PS.pt_len,hi];simp only [PS.pt_at hx];rfl)
     have HN:=hid (show ¬Go.Proofs.YtbjddfiledoaoaaGreat.hangE x.s now=0→p.pt.hangS call  now=p.pt from fun e0=>by unfold XS.hangS;rw [if_neg (by rw [HE.out];exact e0)])
     have HU:=hid (show ¬Go.Proofs.YtbjddfiledoaoaaGreat.hangE x.s now=0→Go.Proofs.YtbjddfiledoaoaaGreat.hangS x.s now=x.s from fun e0=>by unfold Go.Proofs.YtbjddfiledoaoaaGreat.hangS;rw [if_neg e0])
     have HLO:=hid (show LnOk { x.pt with s:=Go.Proofs.YtbjddfiledoaoaaGreat.hangS x.s now } from (hok k x hx).to (hang_vl (hok k x hx).vl now))
     have HLA:=hid (hang_any w x.lb x.r x.A x.c x.s hr.line now)
     rw [HE.out]
     generalize Go.Proofs.YtbjddfiledoaoaaGreat.hangE x.s now=er at *
     generalize Go.Proofs.YtbjddfiledoaoaaGreat.hangS x.s now=s2 at *
     clear h hi hx hr hok h1 h2
     go_enter Tryz.func62,Tryz.ntmps62
     by_cases e0:er=0
     ·have d0:(er != 0)=false:=by simp [e0]
      have HS:=hid (HS.out e0)
      have E0:=hid e0
      clear e0
      go_upto_region 7 with (first
       | (go_at_call 36;(with_reducible refine (vtick_any _ _).mono ?_);rintro e1 w1 ⟨rfl,rfl⟩;rw [hv])
       | (go_at_call 38;(with_reducible refine HF.out.mono ?_);rintro e1 w1 ⟨rfl,rfl⟩)
       | (go_at_call 110;(with_reducible refine HLA.out.mono ?_);rintro e1 w2 hp
          obtain ⟨rfl,x2,T2,S2,i1,i2,i3,i4,i5,i6,i7,i8,hx2,hm2,hs2⟩:=HX.out.lop HXX.out hp
          have HX2:=hid hx2
          have HM2:=hid hm2
          have HS2:=hid hs2
          have HI:=hid (And.intro i1 (And.intro i3 (And.intro i4 (And.intro i5 i6))))
          have c6:w2.cell? ⟨p.x,6,none⟩=some p.evv:=(hx2.hdr.at_ 6).trans rfl
          clear hp hx2 hm2 hs2 i1 i2 i3 i4 i5 i6 i7 i8))
      have HXA:=hid (HX2.out.same ((Keep.refl (fun _=>False) w2).alloc (.cells #[.int .i64 5,.int .i64 now,.int .i64 0,.int .i64 call,.int .i64 0,.int .i64 0,.int .i64 0,.int .i64 0,.slice none 0 0,.int .i64 0,.int .i64 0,.int .i64 0,.int .i64 0,.int .i64 0,.int .i64 0,.int .i64 0,.int .i64 0,.int .i64 0,.int .i64 0,.int .i64 0,.int .i64 0,.int .i64 0,.int .i64 0,.int .i64 0,.int .i64 0,.slice none 0 0,.slice none 0 0,.slice none 0 0] 104)))
      have HSR:=hid (src_new (w:=w2) (cs:=#[.int .i64 5,.int .i64 now,.int .i64 0,.int .i64 call,.int .i64 0,.int .i64 0,.int .i64 0,.int .i64 0,.slice none 0 0,.int .i64 0,.int .i64 0,.int .i64 0,.int .i64 0,.int .i64 0,.int .i64 0,.int .i64 0,.int .i64 0,.int .i64 0,.int .i64 0,.int .i64 0,.int .i64 0,.int .i64 0,.int .i64 0,.int .i64 0,.int .i64 0,.slice none 0 0,.slice none 0 0,.slice none 0 0]) (t:=104) (news:=((⟨5,now,0,call,0,0⟩:Ev):Ev).cells) rfl)
      have HLK:=hid (List.getElem?_eq_some_iff.1 HXX.out).1
      have HXP:=hid (show x2.pt={ x.pt with s:=s2 } from by simp only [RA.pt,HI.out.2.1,HI.out.2.2.1,HI.out.2.2.2.1,HI.out.2.2.2.2])
      go_wp2_with (first
       | (at_builtin
          refine EEv.law2 (.tmp 30) (.tmp 34) p.evv (some ⟨w2.heap.size,0,none⟩) 1 1 rfl rfl rfl rfl 0 p.ev.length (p.ev.flatMap Ev.cells) (((⟨5,now,0,call,0,0⟩:Ev):Ev).cells) (p.ev.length+1) _ rfl (ev_app p.ev (⟨5,now,0,call,0,0⟩:Ev)) HXA.out.ev.own rfl (fun _=>⟨_,rfl,HSR.out⟩) (ev_one _) (by omega) (by unfold maxLen;omega) (Nat.zero_le _) ?_
          intro A7 c7 w7 ho7 hg7 hw7
          have hgr:=HXA.out.grow_ev (y:=(⟨5,now,0,call,0,0⟩:Ev)) hg7 ho7 (own_or hw7)
          have HX7:=hid hgr.1
          have HM7:=hid hgr.2
          have HT7:=hid (grow_tags HXA.out HXA.out.ev)
          have hh7:=grow_hdr HXA.out HXA.out.ev hg7 (fun h=>by cases h)
          have c6:w7.cell? ⟨p.x,6,none⟩=some p.evv:=(hh7.at_ 6).trans rfl
          have f6:=hh7.free 6
          have hof:=offer_any HX7.out (k:=k) (x:=x2) (by rw [List.getElem?_set_self HLK.out]) (by rw [HXP.out];exact HLO.out) hn now
          rw [HI.out.1] at hof
          have HOF:=hid hof
          clear hof
          clear ho7 hg7 hw7 hgr hh7)
       | (go_at_call 46;(with_reducible refine HOF.out.mono ?_);rintro e1 w3 ⟨rfl,hP⟩;have HP:=hid hP;clear hP))
      go_ret
      have hm4:=HM2.out.wide (S2:=fun i=>T.on i) (fun i hi=>by rcases HS2.out i hi with e | e <;> exact Tags.on_of e (fun h=>by cases h))
      have hm5:=hm4.comp (fun _ h=>h) (((Mv.same ((Keep.refl _ w2).alloc _) HX2.out.lt).wide (fun _ f=>f.elim)).trans HM7.out (fun _ _ h=>h)) (tags_on HT7.out (fun h=>by cases h))
      refine ⟨by rw [E0.out];rfl,?_⟩
      rw [HS.out]
      have:=PP.after hm5 (fun _ h=>h) HP.out
      have e8:(({ p with R:=p.R.set k x2,ev:=p.ev++[(⟨5,now,0,call,0,0⟩:Ev)],evv:=.slice A7 (p.ev.length+1) c7 }:PS).pt.offer k x2.pt now)=((p.pt.put k { x.pt with s:=s2 }).evt (⟨5,now,0,call,0,0⟩:Ev)).offer k { x.pt with s:=s2 } now:=by
       rw [HXP.out]
       simp [PS.pt,XS.put,XS.evt,XS.offer,List.map_set,HXP.out]
      rw [←e8]
      exact this
     ·have d0:(er != 0)=true:=by simpa using e0
      have HN:=hid (HN.out e0)
      have HU:=hid (HU.out e0)
      clear e0
      go_wp2_with (first
       | (go_at_call 36;(with_reducible refine (vtick_any _ _).mono ?_);rintro e1 w1 ⟨rfl,rfl⟩;rw [hv])
       | (go_at_call 38;(with_reducible refine HF.out.mono ?_);rintro e1 w1 ⟨rfl,rfl⟩)
       | (go_at_call 110;(with_reducible refine HLA.out.mono ?_);rintro e1 w2 hp
          obtain ⟨rfl,x2,T2,S2,i1,i2,i3,i4,i5,i6,i7,i8,hx2,hm2,hs2⟩:=HX.out.lop HXX.out hp
          have HX2:=hid hx2
          have HM2:=hid hm2
          have HS2:=hid hs2
          have HI:=hid (And.intro i1 (And.intro i3 (And.intro i4 (And.intro i5 i6))))
          clear hp hx2 hm2 hs2 i1 i2 i3 i4 i5 i6 i7 i8))
      go_ret
      refine ⟨rfl,?_⟩
      rw [HN.out]
      refine PP.mk HX2.out rfl rfl (pt_set HXX.out ?_) HM2.out (fun i hi=>by rcases HS2.out i hi with e | e <;> exact Tags.on_of e (fun h=>by cases h))
      simp only [RA.pt,HI.out.2.1,HI.out.2.2.1,HI.out.2.2.2.1,HI.out.2.2.2.2,HU.out]
end
def okS (s:Src):Bool:=decide (1≤s.k) && decide (s.k≤100) && decide (s.nd.length≤200) && s.nd.all (fun n=>decide (0≤n) && decide (n≤4095))
def fvS (l:List Src):List Src:=(l.filter okS).take 16
def stepT (now:Int) (X:XS) (i:Nat):XS:=match X.L[i]? with
 | some l=>if l.s.st≠5∧2 * X.rt≤now - l.last then X.offer i l now else X
 | none=>X
def XS.tickN (X:XS) (now:Int) (j:Nat):XS:=(List.range j).foldl (stepT now) X
def XS.tick (X:XS) (now:Int):XS:=if vN now 0=true then X.tickN now X.L.length else X
def stepC (d now:Int) (X:XS) (i:Nat):XS:=match X.L[i]? with
 | some l=>if l.d=d∧l.s.st≠5 then X.bind i l now else X
 | none=>X
def XS.claimN (X:XS) (d now:Int) (j:Nat):XS:=(List.range j).foldl (stepC d now) X
def XS.take (X:XS) (m:Nt):XS:={ X with who:=X.who.set m.d.toNat m.c,ep:=X.ep.set m.d.toNat m.e }
def XS.claim (X:XS) (m:Nt) (now:Int):XS:=if m.d<X.who.length∧(X.hold m.d).2<m.e then (X.take m).claimN m.d now X.L.length else X
def XS.dialE (X:XS) (node now:Int):Int:=if (0≤node∧node<X.dis.length)∧vN now 0=true then 0 else 1
def XS.dialI (X:XS) (node now:Int):Int:=if X.dialE node now=0 then (X.L.length:Int)+1 else 0
def newL (call d now:Int) (src:List Src):Ln:=⟨⟨call,1,now,-1,0,⟨#[]⟩,0,[]⟩,d,fvS src,0⟩
def XS.add (X:XS) (l:Ln):XS:={ X with L:=X.L++[l] }
def XS.dial (X:XS) (node:Int) (src:List Src) (now:Int):XS :=
 if X.dialE node now=0 then
  let l:=newL ((X.L.length:Int)+1) ((X.dis[node.toNat]?).getD 0) now src
  ((X.add l).evt ⟨2,now,l.d,(X.L.length:Int)+1,0,0⟩).bind X.L.length l now
 else X
def ackR (b:List UInt8):List UInt8 × Int × Int:=((rdBytes ⟨b,0⟩).1,(rdInt (rdBytes ⟨b,0⟩).2).1,endE (rdInt (rdBytes ⟨b,0⟩).2).2)
def XS.ack (X:XS) (k:Nat) (l:Ln) (m:Nt) (now:Int):XS :=
 if (ackR m.body).2.2=0∧acceptE l.s m.e ⟨(ackR m.body).1.toArray⟩ (ackR m.body).2.1=0 then
  let s:=acceptS l.s m.e ⟨(ackR m.body).1.toArray⟩ (ackR m.body).2.1
  X.put k { l with s:=s,last:=if s.st≠3∧m.n=(s.ans.length:Int) then max l.last now else l.last }
 else X
def XS.hear (X:XS) (m:Nt) (now:Int):XS :=
 if m.k=8 then X.claim m now else match idx X.L.length m.call with
  | none=>X
  | some k=>match X.L[k]? with
    | none=>X
    | some l=>if l.s.st=5∨l.s.cen≠m.c∨l.s.ep≠m.e then X else
      if m.k=5 then X.ack k l m now else if m.k=7 then X.put k { l with s:=backS l.s m.e } else
      if m.k=6 then (X.put k { l with s:=closeS l.s m.e }).evt ⟨6,now,m.c,m.call,m.e,0⟩ else X
structure XOk (X:XS):Prop where
 c1:1≤X.cen
 c9:X.cen≤9
 wl:(X.who.length:Int)=X.cen
 el:(X.ep.length:Int)=X.cen
 own:∀ (d:Nat) (a b:Int),X.who[d]? = some a→X.ep[d]? = some b→(0≤a∧a<X.cen)∧1≤b∧b≤1099511627776
 dis:∀ d∈X.dis,0≤d∧d<X.cen
 rt:0≤X.rt∧X.rt≤1099511627776
 ln:∀ (i:Nat) (l:Ln),X.L[i]? = some l→LnOk l∧(0≤l.d∧l.d<X.cen)∧l.s.call=(i:Int)+1
structure XEq (X Y:XS):Prop where
 cen:Y.cen=X.cen
 dis:Y.dis=X.dis
 rt:Y.rt=X.rt
 n:Y.L.length=X.L.length
theorem XEq.refl (X:XS):XEq X X:=⟨rfl,rfl,rfl,rfl⟩
theorem XEq.trans {X Y Z:XS} (h:XEq X Y) (g:XEq Y Z):XEq X Z:=⟨g.cen.trans h.cen,g.dis.trans h.dis,g.rt.trans h.rt,g.n.trans h.n⟩
section
variable {X:XS} {i:Nat} {l l':Ln} {now:Int}
theorem XOk.put (h:XOk X) (h1:LnOk l') (h2:0≤l'.d∧l'.d<X.cen) (h3:l'.s.call=(i:Int)+1):XOk (X.put i l') :=
 ⟨h.c1,h.c9,h.wl,h.el,h.own,h.dis,h.rt,fun j m hm=>by
  have hm:(X.L.set i l')[j]? = some m:=hm
  rw [List.getElem?_set] at hm
  by_cases e:i=j
  ·subst e
   rw [if_pos rfl] at hm
   split at hm
   ·cases hm;exact ⟨h1,h2,h3⟩
   ·cases hm
  ·rw [if_neg e] at hm;exact h.ln j m hm⟩
theorem XOk.evt (h:XOk X) (e:Ev):XOk (X.evt e):=⟨h.c1,h.c9,h.wl,h.el,h.own,h.dis,h.rt,h.ln⟩
theorem XOk.offer (h:XOk X) (hl:LnOk l) (h2:0≤l.d∧l.d<X.cen) (h3:l.s.call=(i:Int)+1) (hn:vN now 0=true):XOk (X.offer i l now):=by
 have hn:=vN_true hn
 have:=h.put (i:=i) (l':={ l with last:=max l.last now }) ⟨hl.vl,by have:=hl.la;simp only;omega,hl.d,hl.src⟩ h2 h3
 exact ⟨this.c1,this.c9,this.wl,this.el,this.own,this.dis,this.rt,this.ln⟩
theorem XOk.hold (h:XOk X) {d:Int} (hd:0≤d∧d<X.cen):∃ a b,X.who[d.toNat]? = some a∧X.ep[d.toNat]? = some b∧X.hold d=(a,b)∧(0≤a∧a<X.cen)∧1≤b∧b≤1099511627776:=by
 have h1:=h.wl
 have h2:=h.el
 obtain ⟨a,ha⟩:=get_some (l:=X.who) (k:=d.toNat) (by omega)
 obtain ⟨b,hb⟩:=get_some (l:=X.ep) (k:=d.toNat) (by omega)
 exact ⟨a,b,ha,hb,by unfold XS.hold;rw [ha,hb];rfl,h.own _ _ _ ha hb⟩
theorem XOk.bind (h:XOk X) (hl:LnOk l) (h2:0≤l.d∧l.d<X.cen) (h3:l.s.call=(i:Int)+1) (hn:vN now 0=true):XOk (X.bind i l now):=by
 unfold XS.bind
 have hb:=hl.bind (X.hold l.d).1 (X.hold l.d).2 now
 have hc:(assignS l.s (X.hold l.d).1 (X.hold l.d).2 now).call=(i:Int)+1:=by rw [assignS_call];exact h3
 exact ((h.put hb h2 hc).evt _).offer hb h2 hc hn
theorem eq_offer (X:XS) (i:Nat) (l:Ln) (now:Int):XEq X (X.offer i l now):=⟨rfl,rfl,rfl,by simp [XS.offer]⟩
theorem eq_put (X:XS) (i:Nat) (l:Ln):XEq X (X.put i l):=⟨rfl,rfl,rfl,by simp [XS.put]⟩
theorem eq_bind (X:XS) (i:Nat) (l:Ln) (now:Int):XEq X (X.bind i l now):=⟨rfl,rfl,rfl,by simp [XS.bind,XS.offer,XS.evt,XS.put]⟩
theorem eq_stepT (now:Int) (X:XS) (i:Nat):XEq X (stepT now X i):=by
 unfold stepT
 split
 ·split
  ·exact eq_offer _ _ _ _
  ·exact XEq.refl _
 ·exact XEq.refl _
theorem stepT_ok (h:XOk X) (hn:vN now 0=true) (i:Nat):XOk (stepT now X i):=by
 unfold stepT
 split
 ·rename_i l hl
  obtain ⟨h1,h2,h3⟩:=h.ln i l hl
  split
  ·exact h.offer h1 h2 h3 hn
  ·exact h
 ·exact h
theorem stepT_len (now:Int) (X:XS) (i:Nat):(stepT now X i).out.length≤X.out.length+1∧(stepT now X i).ev=X.ev∧(stepT now X i).who=X.who∧(stepT now X i).ep=X.ep:=by
 unfold stepT
 split
 ·split
  ·simp [XS.offer]
  ·simp
 ·simp
theorem tickN_succ (X:XS) (now:Int) (j:Nat):X.tickN now (j+1)=stepT now (X.tickN now j) j:=by
 unfold XS.tickN;rw [List.range_succ,List.foldl_append];rfl
theorem tickN_eq (X:XS) (now:Int):∀ j,XEq X (X.tickN now j)
 | 0=>XEq.refl _
 | j+1=>by rw [tickN_succ];exact (tickN_eq X now j).trans (eq_stepT _ _ _)
theorem tickN_ok (h:XOk X) (hn:vN now 0=true):∀ j,XOk (X.tickN now j)
 | 0=>h
 | j+1=>by rw [tickN_succ];exact stepT_ok (tickN_ok h hn j) hn j
theorem tickN_len (X:XS) (now:Int):∀ j,(X.tickN now j).out.length≤X.out.length+j∧(X.tickN now j).ev=X.ev
 | 0=>⟨Nat.le_refl _,rfl⟩
 | j+1=>by
   rw [tickN_succ]
   have h1:=tickN_len X now j
   have h2:=stepT_len now (X.tickN now j) j
   exact ⟨by omega,h2.2.1.trans h1.2⟩
theorem eq_stepC (d now:Int) (X:XS) (i:Nat):XEq X (stepC d now X i):=by
 unfold stepC
 split
 ·split
  ·exact eq_bind _ _ _ _
  ·exact XEq.refl _
 ·exact XEq.refl _
theorem stepC_ok (h:XOk X) (hn:vN now 0=true) (d:Int) (i:Nat):XOk (stepC d now X i):=by
 unfold stepC
 split
 ·rename_i l hl
  obtain ⟨h1,h2,h3⟩:=h.ln i l hl
  split
  ·exact h.bind h1 h2 h3 hn
  ·exact h
 ·exact h
theorem stepC_len (d now:Int) (X:XS) (i:Nat):(stepC d now X i).out.length≤X.out.length+1∧(stepC d now X i).ev.length≤X.ev.length+1∧(stepC d now X i).who=X.who∧(stepC d now X i).ep=X.ep:=by
 unfold stepC
 split
 ·split
  ·simp [XS.bind,XS.offer,XS.evt,XS.put]
  ·simp
 ·simp
theorem claimN_succ (X:XS) (d now:Int) (j:Nat):X.claimN d now (j+1)=stepC d now (X.claimN d now j) j:=by
 unfold XS.claimN;rw [List.range_succ,List.foldl_append];rfl
theorem claimN_eq (X:XS) (d now:Int):∀ j,XEq X (X.claimN d now j)
 | 0=>XEq.refl _
 | j+1=>by rw [claimN_succ];exact (claimN_eq X d now j).trans (eq_stepC _ _ _ _)
theorem claimN_ok (h:XOk X) (hn:vN now 0=true) (d:Int):∀ j,XOk (X.claimN d now j)
 | 0=>h
 | j+1=>by rw [claimN_succ];exact stepC_ok (claimN_ok h hn d j) hn d j
theorem claimN_len (X:XS) (d now:Int):∀ j,(X.claimN d now j).out.length≤X.out.length+j∧(X.claimN d now j).ev.length≤X.ev.length+j∧(X.claimN d now j).who=X.who∧(X.claimN d now j).ep=X.ep
 | 0=>⟨Nat.le_refl _,Nat.le_refl _,rfl,rfl⟩
 | j+1=>by
   rw [claimN_succ]
   have h1:=claimN_len X d now j
   have h2:=stepC_len d now (X.claimN d now j) j
   exact ⟨by omega,by omega,h2.2.2.1.trans h1.2.2.1,h2.2.2.2.trans h1.2.2.2⟩
theorem XOk.take (h:XOk X) {m:Nt} (hc:0≤m.c∧m.c<X.cen) (he:1≤m.e∧m.e≤1099511627776):XOk (X.take m):=by
 refine ⟨h.c1,h.c9,by simpa [XS.take] using h.wl,by simpa [XS.take] using h.el,fun d a b ha hb=>?_,h.dis,h.rt,h.ln⟩
 have ha:(X.who.set m.d.toNat m.c)[d]? = some a:=ha
 have hb:(X.ep.set m.d.toNat m.e)[d]? = some b:=hb
 rw [List.getElem?_set] at ha hb
 by_cases e:m.d.toNat=d
 ·rw [if_pos e] at ha hb
  split at ha
  ·split at hb
   ·cases ha;cases hb;exact ⟨hc,he⟩
   ·cases hb
  ·cases ha
 ·rw [if_neg e] at ha hb;exact h.own d a b ha hb
theorem XOk.claim (h:XOk X) {m:Nt} (hm:vM m=true) (hc:0≤m.c∧m.c<X.cen) (hn:vN now 0=true):XOk (X.claim m now):=by
 unfold XS.claim
 split
 ·rename_i hh
  have h1:=vN_true (vM_iff.1 hm).2.2.1
  have h2:=vC_true (vM_iff.1 hm).2.2.2.2.1
  have hwl:=h.wl
  obtain ⟨a,b,_,_,he,_,hb⟩:=h.hold (d:=m.d) ⟨h2.1,by omega⟩
  rw [he] at hh
  exact claimN_ok (h.take hc ⟨by simp only at hh;omega,h1.2⟩) hn _ _
 ·exact h
theorem claim_len (X:XS) (m:Nt) (now:Int):(X.claim m now).out.length≤X.out.length+X.L.length∧(X.claim m now).ev.length≤X.ev.length+X.L.length∧XEq X (X.claim m now):=by
 unfold XS.claim
 split
 ·have h:=claimN_len (X.take m) m.d now X.L.length
  have e:=claimN_eq (X.take m) m.d now X.L.length
  exact ⟨h.1,h.2.1,⟨e.cen,e.dis,e.rt,e.n⟩⟩
 ·exact ⟨by omega,by omega,XEq.refl _⟩
theorem fvS_ok (l:List Src):SrcOk (fvS l):=by
 refine ⟨by unfold fvS;rw [List.length_take];omega,fun s hs=>?_⟩
 have:=(List.mem_filter.1 (List.mem_of_mem_take hs)).2
 unfold okS at this
 simp only [Bool.and_eq_true,decide_eq_true_eq,List.all_eq_true] at this
 obtain ⟨⟨⟨h1,h2⟩,h3⟩,h4⟩:=this
 refine ⟨⟨by omega,by omega⟩,h3,fun x hx=>?_⟩
 have:=h4 x hx
 exact ⟨by omega,by omega⟩
theorem XOk.add (h:XOk X) (h1:LnOk l) (h2:0≤l.d∧l.d<X.cen) (h3:l.s.call=(X.L.length:Int)+1):XOk (X.add l) :=
 ⟨h.c1,h.c9,h.wl,h.el,h.own,h.dis,h.rt,fun j m hm=>by
  have hm:(X.L++[l])[j]? = some m:=hm
  rcases Nat.lt_or_ge j X.L.length with hj | hj
  ·rw [List.getElem?_append_left hj] at hm;exact h.ln j m hm
  ·have hlt:=(List.getElem?_eq_some_iff.1 hm).1
   simp at hlt
   obtain rfl:j=X.L.length:=by omega
   rw [List.getElem?_append_right (by omega),Nat.sub_self] at hm
   simp at hm
   subst hm
   exact ⟨h1,h2,h3⟩⟩
theorem newL_ok {call d:Int} {src:List Src} (hc:1≤call∧call≤1099511627776) (hd:0≤d∧d<9) (hn:vN now 0=true):LnOk (newL call d now src):=by
 have hn:=vN_true hn
 refine ⟨⟨hc,by simp [newL],fun _=>hn,fun h=>absurd (.inl rfl) h,.inr ⟨rfl,rfl,.inl rfl⟩,.inr ⟨rfl,rfl,rfl⟩,by simp [newL],by simp [newL]⟩,by simp [newL],⟨by simp only [newL];omega,by simp only [newL];omega⟩,fvS_ok src⟩
theorem dis_at (h:XOk X) {node:Int} (hnode:0≤node∧node<X.dis.length):∃ d,X.dis[node.toNat]? = some d∧0≤d∧d<X.cen:=by
 obtain ⟨d,hd⟩:=get_some (l:=X.dis) (k:=node.toNat) (by omega)
 exact ⟨d,hd,h.dis d (List.mem_of_getElem? hd)⟩
theorem XOk.dial (h:XOk X) (hl:X.L.length≤1000000) (node:Int) (src:List Src):XOk (X.dial node src now):=by
 unfold XS.dial
 split
 ·rename_i hE
  have hE2:(0≤node∧node<X.dis.length)∧vN now 0=true:=by
   unfold XS.dialE at hE
   split at hE
   ·assumption
   ·cases hE
  obtain ⟨d,hd,hd0,hd1⟩:=dis_at h hE2.1
  have hc9:=h.c9
  rw [hd]
  have hln:=newL_ok (call:=(X.L.length:Int)+1) (d:=d) (src:=src) ⟨by omega,by omega⟩ ⟨hd0,by omega⟩ hE2.2
  exact ((h.add hln ⟨hd0,hd1⟩ rfl).evt _).bind hln ⟨hd0,hd1⟩ rfl hE2.2
 ·exact h
theorem XOk.ack (h:XOk X) {k:Nat} (hl:X.L[k]? = some l) (m:Nt) (hn:vN now 0=true):XOk (X.ack k l m now):=by
 unfold XS.ack
 have hn:=vN_true hn
 obtain ⟨h1,h2,h3⟩:=h.ln k l hl
 split
 ·refine h.put ⟨accept_vl h1.vl _ _ _,?_,h1.d,h1.src⟩ h2 ?_
  ·have:=h1.la
   simp only
   split <;> omega
  ·simp only
   unfold acceptS
   split
   ·exact h3
   ·exact h3
 ·exact h
theorem XOk.hear (h:XOk X) {m:Nt} (hm:vM m=true) (hc:0≤m.c∧m.c<X.cen) (hn:vN now 0=true):XOk (X.hear m now):=by
 unfold XS.hear
 split
 ·exact h.claim hm hc hn
 ·split
  ·exact h
  ·split
   ·exact h
   ·rename_i k hk l hl
    obtain ⟨h1,h2,h3⟩:=h.ln _ l hl
    split
    ·exact h
    ·split
     ·exact h.ack hl m hn
     ·split
      ·refine h.put (h1.to (back_vl h1.vl _)) h2 ?_
       simp only;unfold backS;split <;> exact h3
      ·split
       ·refine (h.put (h1.to (close_vl h1.vl _)) h2 ?_).evt _
        simp only;unfold closeS;split <;> exact h3
       ·exact h
end
theorem XOk.at_ {p:PS} (h:XOk p.pt) {k:Nat} {x:RA} (hx:p.R[k]? = some x):LnOk x.pt∧(0≤x.d∧x.d<p.cen)∧x.s.call=(k:Int)+1:=h.ln k x.pt (PS.pt_at hx)
def LP (w wr:World) (T:Tags) (p:PS) (X:XS) (B:Nat):Prop:=∃ p' T',PX wr T' p'∧Mv w T wr T' (fun i=>T.on i)∧p'.x=p.x∧p'.lv=p.lv∧p'.pt=X∧XOk X∧X.out.length≤B∧X.ev.length≤B∧X.L.length=p.R.length
theorem LP.next {w wr w2:World} {T:Tags} {p p':PS} {T':Tags} {Y:XS} {B':Nat} (hm:Mv w T wr T' (fun i=>T.on i)) (hx:p'.x=p.x) (hlv:p'.lv=p.lv) (h:PP wr T' p'.x p'.lv Y w2) (hY:XOk Y) (h1:Y.out.length≤B') (h2:Y.ev.length≤B') (h3:Y.L.length=p.R.length):LP w w2 T p Y B':=by
 obtain ⟨p2,T2,S2,e1,e2,e3,h4,h5,h6⟩:=h
 exact ⟨p2,T2,h4,hm.comp (fun _ h=>h) h5 h6,e1.trans hx,e2.trans hlv,e3,hY,h1,h2,h3⟩
theorem LP.pp {w wr:World} {T:Tags} {p:PS} {X:XS} {B:Nat} (h:LP w wr T p X B):PP w T p.x p.lv X wr:=by
 obtain ⟨p',T',h1,h2,h3,h4,h5,_⟩:=h
 exact ⟨p',T',_,h3,h4,h5,h1,h2,fun _ h=>h⟩
theorem LP.same {w wr w2:World} {T:Tags} {p:PS} {X:XS} {B:Nat} (h:LP w wr T p X B) (hk:Same wr w2):LP w w2 T p X B:=by
 obtain ⟨p',T',h1,h2,h3⟩:=h
 exact ⟨p',T',h1.same hk,h2.trans (Mv.same hk h1.lt) (fun _ _ f=>f.elim),h3⟩
set_option maxHeartbeats 8000000 in
set_option maxRecDepth 100000 in
theorem tickX {w:World} {T:Tags} {p:PS} (h:PX w T p) (hok:XOk p.pt) (hl:p.R.length≤1000) (hn:p.out.length≤900000) (hne:p.ev.length≤900000) (now:Int) :
 Calls Tryz.prog 22 #[.pointer (some ⟨p.x,0,none⟩),.int .i64 now] w (PPost w T p.x p.lv (p.pt.tick now) (.tuple #[])):=by
 have HX:=hid h
 cases hv:vN now 0 with
 | false =>
   have HS:=hid (show p.pt.tick now=p.pt from by unfold XS.tick;rw [if_neg (by simp [hv])])
   clear h hok
   go_enter Tryz.func22,Tryz.ntmps22
   go_wp2_with (go_at_call 36;(with_reducible refine (vtick_any _ _).mono ?_);rintro e1 w1 ⟨rfl,rfl⟩;rw [hv])
   go_end0
   exact ⟨rfl,by rw [HS.out];exact PP.self HX.out⟩
 | true =>
   have HS:=hid (show p.pt.tick now=p.pt.tickN now p.R.length from by unfold XS.tick;rw [if_pos hv,PS.pt_len])
   have HOK:=hid hok
   have HLP0:Hid (LP w w T p (p.pt.tickN now 0) 901000):=hid ⟨p,T,h,(Mv.same (Keep.refl _ _) h.lt).wide (fun _ f=>f.elim),rfl,rfl,rfl,hok,by simp only [PS.pt,XS.tickN,List.range_zero,List.foldl_nil,List.length_map];omega,by simp only [PS.pt,XS.tickN,List.range_zero,List.foldl_nil];omega,PS.pt_len p⟩
   have HLN:=hid (fun j=>tickN_len p.pt now j)
   have HEQ:=hid (fun j=>tickN_eq p.pt now j)
   have HTO:=hid (fun j=>tickN_ok hok hv j)
   have hout:p.pt.out.length≤900000:=by simp only [PS.pt,List.length_map];exact hn
   have hev:p.pt.ev.length≤900000:=hne
   have HRT:=hid (show p.pt.rt=p.rt from rfl)
   have hvv:=vN_true hv
   have HVV:=hid hvv
   have c4:w.cell? ⟨p.x,4,none⟩=some p.lv:=(h.hdr.at_ 4).trans rfl
   obtain ⟨LA,lc,hlv⟩:=h.lines.own.shape
   rw [hlv] at c4
   have HLV:=hid hlv
   clear h hok hlv hvv
   go_enter Tryz.func22,Tryz.ntmps22
   go_wp2_with (go_at_call 36;(with_reducible refine (vtick_any _ _).mono ?_);rintro e1 w1 ⟨rfl,rfl⟩;rw [hv])
   go_loopw [14] (fun i wr=>∃ j:Nat,j≤p.R.length∧i=.int .i64 j∧Hid (LP w wr T p (p.pt.tickN now j) 901000)) (fun i _=>p.R.length - (RowKit.intOf i).toNat)
   case atStart=>exact ⟨0,Nat.zero_le _,rfl,HLP0⟩
   case round =>
    obtain ⟨j,hj,rfl,HI⟩:=hrel
    clear HLP0 c4
    by_cases hjn:j<p.R.length
    ·obtain ⟨p2,T2,hx2,hm2,e1,e2,e3,e4,e5,e6,e7⟩:=HI.out
     have hR2:p2.R.length=p.R.length:=by rw [←PS.pt_len,e3];exact e7
     obtain ⟨x,hx⟩:=get_some (l:=p2.R) (k:=j) (by omega)
     obtain ⟨b,off,c,hv2,hb,_,y⟩:=lines_at hx2 hx
     rw [e2,HLV.out] at hv2
     injection hv2 with hA hn2 hc2
     have hokx:=(show XOk p2.pt from by rw [e3];exact e4).at_ hx
     have hr:=hx2.recs j x hx
     have z0:wr.cell? ⟨x.rb,0,none⟩=some (.pointer (some ⟨x.lb,0,none⟩)):=(hr.blk.at_ 0).trans rfl
     have z3:wr.cell? ⟨x.rb,3,none⟩=some (.int .i64 x.last):=(hr.blk.at_ 3).trans rfl
     have c2:wr.cell? ⟨p.x,2,none⟩=some (.int .i64 (2 * p.rt)):=by
      have:=(hx2.hdr.at_ 2)
      rw [e1] at this
      refine this.trans ?_
      have hrt:p2.rt=p.rt:=by
       have h1:p2.pt.rt=p2.rt:=rfl
       rw [←h1,e3,(HEQ.out j).rt];rfl
      simp only [PS.cells,hrt];rfl
     have hla:=hokx.1.la
     have hla0:0≤x.last:=hla.1
     have hla1:x.last≤1099511627776:=hla.2
     have HST:=hid (fun W (hk:Same wr W)=>(show Calls Tryz.prog 39 #[.pointer (some ⟨x.lb,0,none⟩)] W (fun e w'=>e=.returned (.int .i64 x.s.st)∧w'=W) from (state_any W x.lb x.r x.A x.c x.s (hr.line.same hk)).mono (fun _ _ h=>⟨h.1,h.2.symm⟩)))
     have HLX:=hid (show (p.pt.tickN now j).L[j]? = some x.pt from by rw [←e3];exact PS.pt_at hx)
     have HSU:=hid (show stepT now (p.pt.tickN now j) j=if x.s.st≠5∧2 * p.rt≤now - x.last then (p.pt.tickN now j).offer j x.pt now else p.pt.tickN now j from by
      unfold stepT
      rw [HLX.out]
      have:(p.pt.tickN now j).rt=p.rt:=(HEQ.out j).rt
      simp only [this];rfl)
     have HXX:=hid hx
     have HP2:=hid hx2
     have HM2:=hid hm2
     have HLXO:=hid hokx.1
     have HE3:=hid e3
     obtain ⟨hn0,hn1⟩:=HVV.out
     have hj0:(0:Int)≤(j:Int):=Int.natCast_nonneg _
     have hj1:(j:Int)<(p.R.length:Int):=by omega
     have hpl:=hx2.hdr.lt
     have hp2o:p2.out.length≤901000:=by
      have h1:p2.pt.out.length=p2.out.length:=by simp [PS.pt]
      rw [e3] at h1
      omega
     have HPO:=hid (fun W (hk:Same wr W)=>offer_any (hx2.same hk) hx hokx.1 (by omega) now)
     rw [e1,e2,e3] at HPO
     have HNX:=hid (show LP w wr T p (p.pt.tickN now j) 901000 from HI.out)
     have HNEXT:=hid (fun (W:World) (hP:PP wr T2 p.x p.lv (stepT now (p.pt.tickN now j) j) W)=>show LP w W T p (p.pt.tickN now (j+1)) 901000 from by
      have h1:=HLN.out (j+1)
      refine LP.next hm2 e1 e2 (by rw [e1,e2,tickN_succ];exact hP) (HTO.out (j+1)) (by omega) (by rw [h1.2];omega) (by rw [(HEQ.out (j+1)).n];exact PS.pt_len p))
     have HSAME:=hid (fun (W:World) (hk:Same wr W) (he:stepT now (p.pt.tickN now j) j=p.pt.tickN now j)=>show LP w W T p (p.pt.tickN now (j+1)) 901000 from by
      have h1:=HLN.out (j+1)
      rw [tickN_succ,he]
      exact HI.out.same hk)
     have HTW:=hid (fun (W:World) (hk:Same wr W)=>(Mv.same hk hx2.lt))
     clear hx hr hokx hla hx2 hm2 e3 e4 e5 e6 e7 hn2 hc2 HI
     have HE12:=hid (And.intro e1 e2)
     clear e1 e2
     subst hA
     by_cases s5:x.s.st=5
     ·have d5:(x.s.st != 5)=false:=by simp [s5]
      have HF:=hid (show stepT now (p.pt.tickN now j) j=p.pt.tickN now j from by rw [HSU.out,if_neg (by rw [s5];simp)])
      clear s5
      go_upto_region 4 with fail
      go_quiet ((go_at_call 39;refine Calls.quiet_of_same (HST.out _ ((Keep.refl _ _).drewN _))))
      go_wp2_with fail
      go_roundw
      case rel=>first | exact ⟨j+1,by omega,by go_num,hid (HSAME.out _ ((Keep.refl _ _).drewN _) HF.out)⟩ | ((repeat apply Exists.intro);refine And.intro ?_ rfl;exact ⟨j+1,by omega,by go_num,hid (HSAME.out _ ((Keep.refl _ _).drewN _) HF.out)⟩)
      case measure=>simp [RowKit.intOf];omega
     ·have d5:(x.s.st != 5)=true:=by simpa using s5
      by_cases sd:2 * p.rt≤now - x.last
      ·have dd:decide (2 * p.rt≤now - x.last)=true:=decide_eq_true sd
       have HF:=hid (show stepT now (p.pt.tickN now j) j=(p.pt.tickN now j).offer j x.pt now from by rw [HSU.out,if_pos ⟨s5,sd⟩])
       clear s5 sd
       go_upto_region 4 with fail
       go_quiet ((go_at_call 39;refine Calls.quiet_of_same (HST.out _ ((Keep.refl _ _).drewN _))))
       go_wp2_with (go_at_call 46;(with_reducible refine (HPO.out _ ((Keep.refl _ _).drewN _)).mono ?_);rintro e1 w5 ⟨rfl,hP⟩;have HP:=hid hP;clear hP)
       have HG:=hid (HNEXT.out w5 (by rw [HF.out];exact PP.after (HTW.out _ ((Keep.refl _ _).drewN _)) (fun _ f=>f.elim) HP.out))
       go_roundw
       case rel=>first | exact ⟨j+1,by omega,by go_num,HG⟩ | ((repeat apply Exists.intro);refine And.intro ?_ rfl;exact ⟨j+1,by omega,by go_num,HG⟩)
       case measure=>simp [RowKit.intOf];omega
      ·have dd:decide (2 * p.rt≤now - x.last)=false:=decide_eq_false sd
       have HF:=hid (show stepT now (p.pt.tickN now j) j=p.pt.tickN now j from by rw [HSU.out,if_neg (fun h=>sd h.2)])
       clear s5 sd
       go_upto_region 4 with fail
       go_quiet ((go_at_call 39;refine Calls.quiet_of_same (HST.out _ ((Keep.refl _ _).drewN _))))
       go_wp2_with fail
       go_roundw
       case rel=>first | exact ⟨j+1,by omega,by go_num,hid (HSAME.out _ ((Keep.refl _ _).drewN _) HF.out)⟩ | ((repeat apply Exists.intro);refine And.intro ?_ rfl;exact ⟨j+1,by omega,by go_num,hid (HSAME.out _ ((Keep.refl _ _).drewN _) HF.out)⟩)
       case measure=>simp [RowKit.intOf];omega
    ·have hje:j=p.R.length:=by omega
     subst hje
     go_wp2_with fail
     go_end0
     exact ⟨rfl,by rw [HS.out];exact HI.out.pp⟩
theorem hset (a b:Int):∀ (L:List (Int × Int)) (d:Nat),((L.flatMap hcells).set (d * 2) (.int .i64 a)).set (d * 2+1) (.int .i64 b)=(L.set d (a,b)).flatMap hcells
 | [],d=>by simp
 | x :: L,0=>by simp [hcells]
 | x :: L,d+1=>by
   have ih:=hset a b L d
   have e1:(d+1) * 2=d * 2+1+1:=by omega
   rw [List.flatMap_cons,List.set_cons_succ,List.flatMap_cons,←ih,e1]
   rfl
theorem PX.setHold {w:World} {T:Tags} {p:PS} (h:PX w T p) {d:Nat} (hd:d<p.hold.length) (a b:Int):∃ g c,p.hv=.slice (some ⟨g,0,none⟩) p.hold.length c∧g<w.heap.size∧T g=some .hold∧w.frozen? ⟨g,d * 2,none⟩=false∧w.frozen? ⟨g,d * 2+1,none⟩=false ∧
 (∀ x,p.hold[d]? = some x→w.cell? ⟨g,d * 2,none⟩=some (.int .i64 x.1)∧w.cell? ⟨g,d * 2+1,none⟩=some (.int .i64 x.2)) ∧
 PX ((w.setCell ⟨g,d * 2,none⟩ (.int .i64 a)).setCell ⟨g,d * 2+1,none⟩ (.int .i64 b)) T { p with hold:=p.hold.set d (a,b) }∧Mv w T ((w.setCell ⟨g,d * 2,none⟩ (.int .i64 a)).setCell ⟨g,d * 2+1,none⟩ (.int .i64 b)) T (· = g):=by
 obtain ⟨A,c,hv⟩:=h.hold.own.shape
 have ho:=h.hold.own
 rw [hv] at ho
 obtain ⟨g,cur,hA,hrest⟩:=ho.open_ (by omega)
 subst hA
 have hb:=h.hold.lt g (by rw [hv];rfl)
 have ht:=h.hold.tag g (by rw [hv];rfl)
 have h1:=ho.put (by omega) (d * 2) (.int .i64 a)
 have h2:=h1.put (by omega) (d * 2+1) (.int .i64 b)
 rw [hset] at h2
 have hk:Keep (· = g) w ((w.setCell ⟨g,d * 2,none⟩ (.int .i64 a)).setCell ⟨g,d * 2+1,none⟩ (.int .i64 b)):=((Keep.refl _ _).put _ _).put _ _
 have m:Mv w T ((w.setCell ⟨g,d * 2,none⟩ (.int .i64 a)).setCell ⟨g,d * 2+1,none⟩ (.int .i64 b)) T (· = g):=⟨hk,fun _ _=>rfl,fun i hi=>Nat.lt_of_lt_of_le (h.lt i hi) hk.size⟩
 have hT:∀ j,j=g→T j=some .hold∨T j=some .hdr:=fun j hj=>.inl (by rw [hj];exact ht)
 refine ⟨g,c,hv,hb,ht,ho.free (by omega) _,ho.free (by omega) _,fun x hx=>⟨?_,?_⟩,⟨?_,h.tx,m.slice (tags_ne hT) h.dis,?_,h.lines.move m (tags_no hT (fun h=>by cases h) (fun h=>by cases h)),fun k x hx=>recs_move h m hT (fun k=>⟨(fun h=>by cases h),(fun h=>by cases h),(fun h=>by cases h)⟩) k x hx,h.out.move m (tags_no hT (fun h=>by cases h) (fun h=>by cases h)),fun y hy=>m.slice (tags_ne hT) (h.body y hy),h.ev.move m (tags_no hT (fun h=>by cases h) (fun h=>by cases h)),m.lt⟩,m⟩
 ·exact ho.cell (by rw [show (p.hold.flatMap hcells)[d * 2]? = (p.hold[d]?).bind (fun a=>(hcells a)[0]?) from flat_get hcells 2 (fun _=>rfl) p.hold d 0 (by omega),hx];rfl)
 ·exact ho.cell (by rw [show (p.hold.flatMap hcells)[d * 2+1]? = (p.hold[d]?).bind (fun a=>(hcells a)[1]?) from flat_get hcells 2 (fun _=>rfl) p.hold d 1 (by omega),hx];rfl)
 ·refine h.hdr.keep hk (fun e=>?_)
  have:=h.tx
  rw [show p.x=g from e,ht] at this
  injection this with this;cases this
 ·refine ⟨?_,fun j hj=>?_⟩
  ·simp only [hv,List.length_set];exact h2
  ·rw [hv] at hj
   have hj:some g=some j:=hj
   injection hj with hj
   rw [←hj];exact ht
theorem pt_take {p:PS} {m:Nt} {d:Nat} (hd:m.d=(d:Int)):({ p with hold:=p.hold.set d (m.c,m.e) }:PS).pt=p.pt.take m:=by
 simp [PS.pt,XS.take,hd,List.map_set]
set_option maxHeartbeats 8000000 in
set_option maxRecDepth 100000 in
theorem claimX {w:World} {T:Tags} {p:PS} (h:PX w T p) (hok:XOk p.pt) (hl:p.R.length≤1000) (hn:p.out.length≤900000) (hne:p.ev.length≤900000) (m:Nt) (A:Option Addr) (cap:Nat) (hm:vM m=true) (hc:0≤m.c∧m.c<p.cen) (now:Int) (hv:vN now 0=true) :
 Calls Tryz.prog 37 #[.pointer (some ⟨p.x,0,none⟩),.agg (m.cells A cap).toArray,.int .i64 now] w (PPost w T p.x p.lv (p.pt.claim m now) (.tuple #[])):=by
 have HX:=hid h
 have hk1:=(Keep.refl (fun _=>False) w).alloc (.cells (m.cells A cap).toArray 66)
 have HB1:=hid (Blk.made w 66 (m.cells A cap).toArray)
 have hX1:=h.same hk1
 have HM1:=hid (Mv.same hk1 h.lt)
 have h2:=vC_true (vM_iff.1 hm).2.2.2.2.1
 obtain ⟨d,hd⟩:∃ d:Nat,m.d=(d:Int):=⟨_,(Int.toNat_of_nonneg h2.1).symm⟩
 have hwl:p.pt.who.length=p.hold.length:=by simp [PS.pt]
 have hcl:=hok.wl
 rw [hwl] at hcl
 have h9:=hok.c9
 have HCLN:=hid hcl
 clear hcl hwl
 have HXOK:=hid hok
 have HC:=hid hc
 have HVM:=hid hm
 by_cases g1:d<p.hold.length
 ·obtain ⟨hh,hhd⟩:=get_some g1
  have hhold:p.pt.hold m.d=hh:=by rw [hd,XS.hold_at (a:=hh.1) (b:=hh.2) (by simp [PS.pt,hhd]) (by simp [PS.pt,hhd])]
  obtain ⟨g,c,hv3,hgl,hgt,f0,f1,hcell,hX2,hM2⟩:=hX1.setHold g1 m.c m.e
  obtain ⟨y0,y1⟩:=hcell hh hhd
  have c3:(w.alloc (.cells (m.cells A cap).toArray 66)).cell? ⟨p.x,3,none⟩=some p.hv:=(hX1.hdr.at_ 3).trans rfl
  rw [hv3] at c3
  have hg1:(d:Int)<(p.hold.length:Int):=by omega
  have hd0:(0:Int)≤(d:Int):=Int.natCast_nonneg _
  have hqp:¬w.heap.size=p.x:=fun e=>by have:=h.hdr.lt;omega
  have hqg:¬w.heap.size=g:=fun e=>by have:=h.hold.lt g (by rw [hv3];rfl);omega
  have HQG:=hid hqg
  by_cases g2:m.e≤hh.2
  ·have HS:=hid (show p.pt.claim m now=p.pt from by unfold XS.claim;rw [if_neg (by rw [hhold];omega)])
   obtain ⟨mk,mcall,md,mc,me,mn,mb⟩:=m
   simp only [Nt.cells] at HB1 HM1 c3 y0 y1 f0 f1 hX1 ⊢
   simp only at hd g2 HS
   subst hd
   have d2:decide (me≤hh.2)=true:=decide_eq_true g2
   have d1:decide (p.hold.length≤d)=false:=decide_eq_false (by omega)
   have d1':decide ((p.hold.length:Int)≤(d:Int))=false:=decide_eq_false (by omega)
   have HX1:=hid hX1
   clear h hok hX1 hX2 hM2 hv3 hcell hhd hhold hm hc HB1 hk1 hgt
   go_enter Tryz.func37,Tryz.ntmps37
   go_wp2_with fail
   go_quiet (fail)
   go_wp2_with fail
   go_end0
   refine ⟨rfl,?_⟩
   rw [HS.out]
   exact PP.mk (HX1.out.same ((Keep.refl _ _).drewN _)) rfl rfl rfl (HM1.out.trans (Mv.same ((Keep.refl _ _).drewN _) HX1.out.lt) (fun _ _ f=>f)) (fun _ f=>f.elim)
  ·have hif:m.d<(p.pt.who.length:Int)∧(p.pt.hold m.d).2<m.e:=by
    have h0:p.pt.who.length=p.hold.length:=by simp [PS.pt]
    rw [hhold,h0]
    exact ⟨by omega,by omega⟩
   have HS:=hid (show p.pt.claim m now=(p.pt.take m).claimN m.d now p.R.length from by unfold XS.claim;rw [if_pos hif,PS.pt_len])
   have hmn:=vN_true (vM_iff.1 hm).2.2.1
   have hh1:=(hok.own d hh.1 hh.2 (by simp [PS.pt,hhd]) (by simp [PS.pt,hhd])).2.1
   have hXT:XOk (p.pt.take m):=hok.take hc ⟨by omega,hmn.2⟩
   have HTO:=hid (fun j=>claimN_ok hXT hv m.d j)
   have HEQ:=hid (fun j=>claimN_eq (p.pt.take m) m.d now j)
   have HLN:=hid (fun j=>claimN_len (p.pt.take m) m.d now j)
   have hout:(p.pt.take m).out.length≤900000:=by simp only [PS.pt,XS.take,List.length_map];exact hn
   have hev:(p.pt.take m).ev.length≤900000:=hne
   have hpl:(p.pt.take m).L.length=p.R.length:=by simp [PS.pt,XS.take]
   have hpt:=pt_take (p:=p) (m:=m) hd
   obtain ⟨mk,mcall,md,mc,me,mn,mb⟩:=m
   simp only [Nt.cells] at HB1 HM1 c3 y0 y1 f0 f1 hX1 hX2 hM2 ⊢
   simp only at hd g2 HS HTO HEQ HLN
   subst hd
   have d2:decide (me≤hh.2)=false:=decide_eq_false g2
   have d1:decide (p.hold.length≤d)=false:=decide_eq_false (by omega)
   have d1':decide ((p.hold.length:Int)≤(d:Int))=false:=decide_eq_false (by omega)
   have HSH:=hid (fun n=>show PX ((((w.alloc (.cells #[.int .i64 mk,.int .i64 mcall,.int .i64 (d:Int),.int .i64 mc,.int .i64 me,.int .i64 mn,.slice A mb.length cap] 66)).drewN n).setCell ⟨g,d * 2,none⟩ (.int .i64 mc)).setCell ⟨g,d * 2+1,none⟩ (.int .i64 me)) T { p with hold:=p.hold.set d (mc,me) }∧Mv w T ((((w.alloc (.cells #[.int .i64 mk,.int .i64 mcall,.int .i64 (d:Int),.int .i64 mc,.int .i64 me,.int .i64 mn,.slice A mb.length cap] 66)).drewN n).setCell ⟨g,d * 2,none⟩ (.int .i64 mc)).setCell ⟨g,d * 2+1,none⟩ (.int .i64 me)) T (fun i=>T.on i) from by
    obtain ⟨g',c',hv',_,hgt',_,_,_,h1,h2⟩:=(hX1.same ((Keep.refl _ _).drewN n)).setHold g1 mc me
    rw [hv3] at hv'
    injection hv' with e _ _
    injection e with e
    injection e with e _ _
    subst e
    have m1:=HM1.out.trans (Mv.same ((Keep.refl _ _).drewN n) hX1.lt) (fun _ _ f=>f)
    exact ⟨h1,m1.comp (fun _ f=>f.elim) h2 (fun i hi=>by rw [show i=g from hi];exact Tags.on_of hgt (fun h=>by cases h))⟩)
   have HBK:=hid (fun n=>(((Blk.drewN HB1.out n).far (p:=⟨g,d * 2,none⟩) hqg (.int .i64 mc)).far (p:=⟨g,d * 2+1,none⟩) hqg (.int .i64 me)))
   have HTQ:=hid (show T w.heap.size=none from by
    cases ht:T w.heap.size with
    | none=>rfl
    | some t=>have:=HX.out.lt w.heap.size (by rw [ht];exact fun h=>by cases h);omega)
   have HPT:=hid hpt
   have HHOLD:=hid hhd
   clear h hok hX1 hX2 hM2 hv3 hcell hhd hhold hm hc hk1 hgt hXT hpt hif
   go_enter Tryz.func37,Tryz.ntmps37
   go_wp2_with fail
   go_quiet (fail)
   go_wp2_with fail
   go_region
   have hsh:=HSH.out (nq+1)
   have hbk:=HBK.out (nq+1)
   generalize ((((w.alloc (.cells #[.int .i64 mk,.int .i64 mcall,.int .i64 (d:Int),.int .i64 mc,.int .i64 me,.int .i64 mn,.slice A mb.length cap] 66)).drewN (nq+1)).setCell ⟨g,d * 2,none⟩ (.int .i64 mc)).setCell ⟨g,d * 2+1,none⟩ (.int .i64 me))=wB at *
   obtain ⟨q,hq⟩:∃ q,q=w.heap.size:=⟨_,rfl⟩
   rw [←hq] at hbk HTQ ⊢
   clear hq
   have HBQ:=hid hbk
   have HMB:=hid hsh.2
   have hxb:=hsh.1
   have c4:wB.cell? ⟨p.x,4,none⟩=some p.lv:=(hxb.hdr.at_ 4).trans rfl
   have hq2:wB.cell? ⟨q,2,none⟩=some (.int .i64 (d:Int)):=hbk.at_ 2
   obtain ⟨LA,lc,hlv0⟩:=hxb.lines.own.shape
   have hlv:p.lv=.slice LA p.R.length lc:=hlv0
   clear hlv0
   rw [hlv] at c4
   have HLV:=hid hlv
   have HXB:=hid hxb
   have HLP0:Hid (LP wB wB T { p with hold:=p.hold.set d (mc,me) } ((p.pt.take ⟨mk,mcall,(d:Int),mc,me,mn,mb⟩).claimN d now 0) 901000):=hid ⟨_,T,hxb,(Mv.same (Keep.refl _ _) hxb.lt).wide (fun _ f=>f.elim),rfl,rfl,HPT.out,HTO.out 0,by have:=(HLN.out 0).1;omega,by have:=(HLN.out 0).2.1;omega,by rw [(HEQ.out 0).n];exact hpl⟩
   clear hsh hbk hxb hlv HBK HSH c3 y0 y1 f0 f1 HB1 HM1
   go_wp2_with fail
   go_loopw [47] (fun i wr=>∃ j:Nat,j≤p.R.length∧i=.int .i64 j∧Hid (LP wB wr T { p with hold:=p.hold.set d (mc,me) } ((p.pt.take ⟨mk,mcall,(d:Int),mc,me,mn,mb⟩).claimN d now j) 901000)) (fun i _=>p.R.length - (RowKit.intOf i).toNat)
   case atStart=>exact ⟨0,Nat.zero_le _,rfl,HLP0⟩
   case round =>
    obtain ⟨j,hj,rfl,HI⟩:=hrel
    clear HLP0 c4
    by_cases hjn:j<p.R.length
    ·obtain ⟨p2,T2,hx2,hm2,e1,e2,e3,e4,e5,e6,e7⟩:=HI.out
     have e1:p2.x=p.x:=e1
     have e2:p2.lv=p.lv:=e2
     have e7:((p.pt.take ⟨mk,mcall,(d:Int),mc,me,mn,mb⟩).claimN d now j).L.length=p.R.length:=e7
     have hR2:p2.R.length=p.R.length:=by rw [←PS.pt_len,e3];exact e7
     obtain ⟨x,hx⟩:=get_some (l:=p2.R) (k:=j) (by omega)
     obtain ⟨b,off,c,hv2,hb,_,y⟩:=lines_at hx2 hx
     rw [e2,HLV.out] at hv2
     injection hv2 with hA hn2 hc2
     have hok2:XOk p2.pt:=by rw [e3];exact e4
     have hokx:=hok2.at_ hx
     have hr:=hx2.recs j x hx
     have z0:wr.cell? ⟨x.rb,0,none⟩=some (.pointer (some ⟨x.lb,0,none⟩)):=(hr.blk.at_ 0).trans rfl
     have z1:wr.cell? ⟨x.rb,1,none⟩=some (.int .i64 x.d):=(hr.blk.at_ 1).trans rfl
     have q2:wr.cell? ⟨q,2,none⟩=some (.int .i64 (d:Int)):=(HBQ.out.keep hm2.keep (fun h=>h.1 HTQ.out)).at_ 2
     have HST:=hid (fun W (hk:Same wr W)=>(show Calls Tryz.prog 39 #[.pointer (some ⟨x.lb,0,none⟩)] W (fun e w'=>e=.returned (.int .i64 x.s.st)∧w'=W) from (state_any W x.lb x.r x.A x.c x.s (hr.line.same hk)).mono (fun _ _ h=>⟨h.1,h.2.symm⟩)))
     have HLX:=hid (show ((p.pt.take ⟨mk,mcall,(d:Int),mc,me,mn,mb⟩).claimN d now j).L[j]? = some x.pt from by rw [←e3];exact PS.pt_at hx)
     generalize hXj:(p.pt.take ⟨mk,mcall,(d:Int),mc,me,mn,mb⟩).claimN d now j=Xj at *
     have HSU:=hid (show stepC d now Xj j=if x.d=(d:Int)∧x.s.st≠5 then Xj.bind j x.pt now else Xj from by
      unfold stepC
      rw [HLX.out];rfl)
     have hp2o:p2.out.length≤901000:=by
      have h1:p2.pt.out.length=p2.out.length:=by simp [PS.pt]
      rw [e3] at h1
      omega
     have hp2e:p2.ev.length≤901000:=by
      have h1:p2.pt.ev.length=p2.ev.length:=by simp [PS.pt]
      rw [e3] at h1
      omega
     have hj0:(0:Int)≤(j:Int):=Int.natCast_nonneg _
     have hj1:(j:Int)<(p.R.length:Int):=by omega
     have hd2:d<p2.hold.length:=by
      have h1:p2.pt.who.length=p2.hold.length:=by simp [PS.pt]
      have h2:=hok2.wl
      have h3:p2.pt.cen=p.pt.cen:=by rw [e3,←hXj,(HEQ.out j).cen];rfl
      have h4:=HCLN.out
      rw [h1,h3] at h2
      omega
     obtain ⟨ha,hha⟩:=get_some hd2
     have HPO:=hid (fun W (hk:Same wr W) (hxd:x.d=(d:Int))=>assignX_any (hx2.same hk) hx hokx.1 (by omega) (by omega) hxd hha now)
     rw [e1,e2,e3] at HPO
     have HNEXT:=hid (fun (W:World) (hP:PP wr T2 p.x p.lv (stepC d now Xj j) W)=>show LP wB W T { p with hold:=p.hold.set d (mc,me) } ((p.pt.take ⟨mk,mcall,(d:Int),mc,me,mn,mb⟩).claimN d now (j+1)) 901000 from by
      have h1:=HLN.out (j+1)
      refine LP.next hm2 e1 e2 (by rw [e1,e2,claimN_succ,hXj];exact hP) (HTO.out (j+1)) (by omega) (by omega) (by rw [(HEQ.out (j+1)).n];exact hpl))
     have HSAME:=hid (fun (W:World) (hk:Same wr W) (he:stepC d now Xj j=Xj)=>show LP wB W T { p with hold:=p.hold.set d (mc,me) } ((p.pt.take ⟨mk,mcall,(d:Int),mc,me,mn,mb⟩).claimN d now (j+1)) 901000 from by
      rw [claimN_succ,hXj,he]
      exact HI.out.same hk)
     have HTW:=hid (fun (W:World) (hk:Same wr W)=>(Mv.same hk hx2.lt))
     clear hx hr hokx hx2 hm2 e3 e4 e5 e6 e7 hn2 hc2 HI hXj hok2 hha e1 e2
     subst hA
     by_cases sd:x.d=(d:Int)
     ·have dd:(x.d == (d:Int))=true:=by simp [sd]
      by_cases s5:x.s.st=5
      ·have d5:(x.s.st != 5)=false:=by simp [s5]
       have HF:=hid (show stepC d now Xj j=Xj from by rw [HSU.out,if_neg (fun h=>h.2 s5)])
       clear s5 sd
       go_upto_region 6 with fail
       go_quiet ((go_at_call 39;refine Calls.quiet_of_same (HST.out _ ((Keep.refl _ _).drewN _))))
       go_wp2_with fail
       go_roundw
       case rel=>first | exact ⟨j+1,by omega,by go_num,hid (HSAME.out _ ((Keep.refl _ _).drewN _) HF.out)⟩ | ((repeat apply Exists.intro);refine And.intro ?_ rfl;exact ⟨j+1,by omega,by go_num,hid (HSAME.out _ ((Keep.refl _ _).drewN _) HF.out)⟩)
       case measure=>simp [RowKit.intOf];omega
      ·have d5:(x.s.st != 5)=true:=by simpa using s5
       have HF:=hid (show stepC d now Xj j=Xj.bind j x.pt now from by rw [HSU.out,if_pos ⟨sd,s5⟩])
       have HSD:=hid sd
       clear s5 sd
       go_upto_region 6 with fail
       go_quiet ((go_at_call 39;refine Calls.quiet_of_same (HST.out _ ((Keep.refl _ _).drewN _))))
       go_wp2_with (go_at_call 69;(with_reducible refine (HPO.out _ ((Keep.refl _ _).drewN _) HSD.out).mono ?_);rintro e1 w5 ⟨rfl,hP⟩;have HP:=hid hP;clear hP)
       have HG:=hid (HNEXT.out w5 (by rw [HF.out];exact PP.after (HTW.out _ ((Keep.refl _ _).drewN _)) (fun _ f=>f.elim) HP.out))
       go_roundw
       case rel=>first | exact ⟨j+1,by omega,by go_num,HG⟩ | ((repeat apply Exists.intro);refine And.intro ?_ rfl;exact ⟨j+1,by omega,by go_num,HG⟩)
       case measure=>simp [RowKit.intOf];omega
     ·have dd:(x.d == (d:Int))=false:=by simpa using sd
      have HF:=hid (show stepC d now Xj j=Xj from by rw [HSU.out,if_neg (fun h=>sd h.1)])
      clear sd
      go_upto_region 6 with fail
      go_quiet ((go_at_call 39;refine Calls.quiet_of_same (HST.out _ ((Keep.refl _ _).drewN _))))
      go_wp2_with fail
      go_roundw
      case rel=>first | exact ⟨j+1,by omega,by go_num,hid (HSAME.out _ ((Keep.refl _ _).drewN _) HF.out)⟩ | ((repeat apply Exists.intro);refine And.intro ?_ rfl;exact ⟨j+1,by omega,by go_num,hid (HSAME.out _ ((Keep.refl _ _).drewN _) HF.out)⟩)
      case measure=>simp [RowKit.intOf];omega
    ·have hje:j=p.R.length:=by omega
     subst hje
     go_wp2_with fail
     go_end0
     refine ⟨rfl,?_⟩
     rw [HS.out]
     exact PP.after HMB.out (fun _ h=>h) HI.out.pp
 ·have hif:¬(m.d<(p.pt.who.length:Int)∧(p.pt.hold m.d).2<m.e):=by
   have h0:p.pt.who.length=p.hold.length:=by simp [PS.pt]
   rw [h0]
   omega
  have HS:=hid (show p.pt.claim m now=p.pt from by unfold XS.claim;rw [if_neg hif])
  obtain ⟨B,c,hv3⟩:=h.hold.own.shape
  have c3:(w.alloc (.cells (m.cells A cap).toArray 66)).cell? ⟨p.x,3,none⟩=some p.hv:=(hX1.hdr.at_ 3).trans rfl
  rw [hv3] at c3
  obtain ⟨mk,mcall,md,mc,me,mn,mb⟩:=m
  simp only [Nt.cells] at HB1 HM1 c3 hX1 ⊢
  simp only at hd HS
  subst hd
  have d1:decide (p.hold.length≤d)=true:=decide_eq_true (by omega)
  have d1':decide ((p.hold.length:Int)≤(d:Int))=true:=decide_eq_true (by omega)
  have HX1:=hid hX1
  clear h hok hX1 hv3 hm hc HB1 hk1 hif
  go_enter Tryz.func37,Tryz.ntmps37
  go_wp2_with fail
  go_quiet (fail)
  go_wp2_with fail
  go_end0
  refine ⟨rfl,?_⟩
  rw [HS.out]
  exact PP.mk (HX1.out.same ((Keep.refl _ _).drewN _)) rfl rfl rfl (HM1.out.trans (Mv.same ((Keep.refl _ _).drewN _) HX1.out.lt) (fun _ _ f=>f)) (fun _ f=>f.elim)
end Go.Proofs.YtbjddfiledoaoaaGreat

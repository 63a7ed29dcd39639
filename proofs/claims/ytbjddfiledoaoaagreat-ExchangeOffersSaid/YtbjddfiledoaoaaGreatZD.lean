import Derived.Test.YtbjddfiledoaoaaGreatYT
import Derived.Test.YtbjddfiledoaoaaGreatYV
import Derived.Test.YtbjddfiledoaoaaGreatYL
namespace Go.Proofs.YtbjddfiledoaoaaGreat
open Go.RowKit
theorem one_line {p:PS} {X:XS} {a b:Int} (h:p.pt=X) (hl:X.L.map (fun l=>(l.s.cen,l.s.ep))=[(a,b)]):∃ x,p.R[0]? = some x∧x.s.cen=a∧x.s.ep=b:=by
 rw [←h] at hl
 have hl:(p.R.map RA.pt).map (fun l=>(l.s.cen,l.s.ep))=[(a,b)]:=hl
 rw [List.map_map] at hl
 cases hR:p.R with
 | nil=>rw [hR] at hl;cases hl
 | cons x r =>
   rw [hR] at hl
   simp only [List.map_cons,List.cons.injEq,Function.comp] at hl
   have h1:(x.s.cen,x.s.ep)=(a,b):=hl.1
   injection h1 with h1 h2
   exact ⟨x,rfl,h1,h2⟩
theorem one_state {p:PS} {X:XS} {a:Int} (h:p.pt=X) (hl:X.L.map (fun l=>l.s.st)=[a]):∃ x,p.R[0]? = some x∧x.s.st=a:=by
 rw [←h] at hl
 have hl:(p.R.map RA.pt).map (fun l=>l.s.st)=[a]:=hl
 rw [List.map_map] at hl
 cases hR:p.R with
 | nil=>rw [hR] at hl;cases hl
 | cons x r =>
   rw [hR] at hl
   simp only [List.map_cons,List.cons.injEq,Function.comp] at hl
   exact ⟨x,rfl,hl.1⟩
theorem pt_lens {p:PS} {X:XS} (h:p.pt=X):p.R.length=X.L.length∧p.out.length=X.out.length∧p.ev.length=X.ev.length:=by
 rw [←h]
 simp [PS.pt]
theorem aw_e8:(encM ⟨8,0,0,1,2,0,[]⟩).length≤1000000:=Nat.le_of_ble_eq_true (by kernel_rfl)
theorem aw_e6:(encM ⟨6,1,0,0,1,0,[]⟩).length≤1000000:=Nat.le_of_ble_eq_true (by kernel_rfl)
set_option maxHeartbeats 8000000 in
set_option maxRecDepth 100000 in
theorem awakeQ (w:World):Calls Tryz.prog 10 #[] w (fun e w'=>e=.returned (.bool true)∧Same w w'):=by
 have HTW:=hid (twoQ w)
 unfold TwoPost at HTW
 go_enter Tryz.func10,Tryz.ntmps10
 go_upto_region 1 with fail
 go_wp2_with fail
 (with_reducible refine HTW.out.mono ?_)
 rintro e w1 ⟨g,rfl,hcm,hk1⟩
 have HK1:=hid hk1
 have HNB:=hid (show Calls Tryz.prog 27 #[.agg (twoC g).cells.toArray] w1 (fun e w'=>∃ T p,e=.returned (.tuple #[.pointer (some ⟨p.x,0,none⟩),.int .i64 0])∧p.pt=newX (twoC g)∧NewBt w1 w' T p) from (newB_any w1 (twoC g) hcm).mono (fun e w' hh=>by
  rcases hh with hh | hh
  ·exact hh.2
  ·exact absurd (two_v g) hh.1))
 clear hcm hk1
 go_upto_region 4 with (first
  | (go_at_call 27
     (with_reducible refine HNB.out.mono ?_)
     rintro e w2 ⟨T2,p2,rfl,hpt,hn⟩
     have HP2:=hid hn.px
     have HPT2:=hid hpt
     have HSM2:=hid (HK1.out.then hn.same)
     have HNW2:=hid (show ∀ i,T2 i≠none→w.heap.size≤i from fun i hi=>Nat.le_trans HK1.out.size (hn.new i hi))
     clear hpt hn))
 obtain ⟨x0,hx0⟩:∃ x0,x0=p2.x:=⟨_,rfl⟩
 rw [←hx0]
 have HX2:=hid hx0.symm
 clear hx0
 have hn2:=pt_lens HPT2.out
 have hl2:(newX (twoC g)).L.length=0∧(newX (twoC g)).out.length=0∧(newX (twoC g)).ev.length=0:=⟨rfl,rfl,rfl⟩
 have hok2:XOk (newX (twoC g)):=newX_ok (two_v g)
 have HOK2:=hid hok2
 have HC2:=hid (dialX HP2.out (by rw [HPT2.out];exact hok2) (by omega) (by omega) (by omega) 0 none 0 [] ⟨Sl.nil _ _ _ _,fun _ h=>by cases h⟩ (by simp) (fun _ h=>by cases h) 5)
 rw [HPT2.out,HX2.out] at HC2
 simp only [List.map_nil,List.length_nil] at HC2
 rw [(aw1_e g).1,(aw1_e g).2] at HC2
 unfold DPost PPost PP at HC2
 clear hn2 hl2 hok2
 go_upto_region 5 with (first
  | (go_at_call 34
     (with_reducible refine HC2.out.mono ?_)
     rintro e w3 ⟨lv,rfl,p3,T3,S3,hx,_,hpt,hp,m,hS⟩
     have HP3:=hid hp
     have HPT3:=hid hpt
     have HX3:=hid hx
     have HSM3:=hid (show Same w w3 from HSM2.out.trans m.keep (fun i hi hs=>by have:=HNW2.out i (hS i hs).1;omega))
     have HNW3:=hid (show ∀ i,T3 i≠none→w.heap.size≤i from fun i hi=>by
      rcases m.new i hi with h | h
      ·exact HNW2.out i h
      ·exact Nat.le_trans HSM2.out.size h)
     clear hp hpt hx m hS))
 have HPT3:=hid (show p3.pt=aw1 g from HPT3.out)
 have HOK3:=hid (show XOk (aw1 g) from HOK2.out.dial (Nat.zero_le _) 0 [])
 obtain ⟨y3,hy3,hc3,he3⟩:=one_line HPT3.out (aw1_l g)
 have hn3:=pt_lens HPT3.out
 have hl3:=aw1_n g
 have HC3:=hid (ownerX_some HP3.out (call:=1) (k:=0) (by unfold idx;rw [if_pos (by omega)];rfl) hy3 (by omega))
 rw [HX3.out,hc3,he3] at HC3
 clear hy3 hc3 he3 hn3 hl3
 go_upto_region 6 with (first
  | (go_at_call 31
     (with_reducible refine HC3.out.mono ?_)
     rintro e w4 ⟨rfl,hk⟩
     have HP4:=hid (HP3.out.same hk)
     have HSM4:=hid (HSM3.out.then hk)
     clear hk HC3))
 have HF4:=hid (fromQ w4 (fun _=>False) ⟨8,0,0,1,2,0,[]⟩ none 0 (Sl.nil _ _ _ _) 2)
 unfold FrP at HF4
 dsimp only [List.length_nil] at HF4
 go_upto_region 7 with (first
  | (go_at_call 18
     (with_reducible refine HF4.out.mono ?_)
     rintro e w5 ⟨C,cc,rfl,hs,hk⟩
     have HP5:=hid (HP4.out.same hk)
     have HSM5:=hid (HSM4.out.then hk)
     have hn4:=pt_lens HPT3.out
     have hl4:=aw1_n g
     have hlt4:=HP4.out.lt
     have HC4:=hid (recvX HP5.out (by rw [HPT3.out];exact HOK3.out) (by omega) (by omega) (by omega) 1 2 C cc (encM ⟨8,0,0,1,2,0,[]⟩) (hs.wide (fun j _ hj=>hlt4 j hj)) aw_e8 6)
     rw [HPT3.out,HX3.out] at HC4
     unfold PPost PP at HC4
     clear hn4 hl4 hlt4 hs hk)
  | (go_at_call 17
     (with_reducible refine HC4.out.mono ?_)
     rintro e w6 ⟨rfl,p6,T6,S6,hx,_,hpt,hp,m,hS⟩
     have HP6:=hid hp
     have HPT6:=hid hpt
     have HX6:=hid hx
     have HSM6:=hid (show Same w w6 from HSM5.out.trans m.keep (fun i hi hs=>by have:=HNW3.out i (hS i hs).1;omega))
     have HNW6:=hid (show ∀ i,T6 i≠none→w.heap.size≤i from fun i hi=>by
      rcases m.new i hi with h | h
      ·exact HNW3.out i h
      ·exact Nat.le_trans HSM5.out.size h)
     clear hp hpt hx m hS HC4 HF4))
 have HPT6:=hid (show p6.pt=aw2 g from HPT6.out)
 have HOK6:=hid (show XOk (aw2 g) from HOK3.out.recv 1 2 (encM ⟨8,0,0,1,2,0,[]⟩))
 obtain ⟨y6,hy6,hc6,he6⟩:=one_line HPT6.out (aw2_l g)
 have hn6:=pt_lens HPT6.out
 have hl6:=aw2_n g
 have HC6:=hid (ownerX_some HP6.out (call:=1) (k:=0) (by unfold idx;rw [if_pos (by omega)];rfl) hy6 (by omega))
 rw [HX6.out,hc6,he6] at HC6
 clear hy6 hc6 he6 hn6 hl6
 go_upto_region 8 with (first
  | (go_at_call 31
     (with_reducible refine HC6.out.mono ?_)
     rintro e w7 ⟨rfl,hk⟩
     have HP7:=hid (HP6.out.same hk)
     have HSM7:=hid (HSM6.out.then hk)
     clear hk HC6))
 have HF7:=hid (fromQ w7 (fun _=>False) ⟨6,1,0,0,1,0,[]⟩ none 0 (Sl.nil _ _ _ _) 2)
 unfold FrP at HF7
 dsimp only [List.length_nil] at HF7
 go_upto_region 9 with (first
  | (go_at_call 18
     (with_reducible refine HF7.out.mono ?_)
     rintro e w8 ⟨C,cc,rfl,hs,hk⟩
     have HP8:=hid (HP7.out.same hk)
     have HSM8:=hid (HSM7.out.then hk)
     have hn7:=pt_lens HPT6.out
     have hl7:=aw2_n g
     have hlt7:=HP7.out.lt
     have HC7:=hid (recvX HP8.out (by rw [HPT6.out];exact HOK6.out) (by omega) (by omega) (by omega) 0 2 C cc (encM ⟨6,1,0,0,1,0,[]⟩) (hs.wide (fun j _ hj=>hlt7 j hj)) aw_e6 7)
     rw [HPT6.out,HX6.out] at HC7
     unfold PPost PP at HC7
     clear hn7 hl7 hlt7 hs hk)
  | (go_at_call 17
     (with_reducible refine HC7.out.mono ?_)
     rintro e w9 ⟨rfl,p9,T9,S9,hx,_,hpt,hp,m,hS⟩
     have HP9:=hid hp
     have HPT9:=hid hpt
     have HX9:=hid hx
     have HSM9:=hid (show Same w w9 from HSM8.out.trans m.keep (fun i hi hs=>by have:=HNW6.out i (hS i hs).1;omega))
     have HNW9:=hid (show ∀ i,T9 i≠none→w.heap.size≤i from fun i hi=>by
      rcases m.new i hi with h | h
      ·exact HNW6.out i h
      ·exact Nat.le_trans HSM8.out.size h)
     clear hp hpt hx m hS HC7 HF7))
 have HPT9:=hid (show p9.pt=aw3 g from HPT9.out)
 have HOK9:=hid (show XOk (aw3 g) from HOK6.out.recv 0 2 (encM ⟨6,1,0,0,1,0,[]⟩))
 obtain ⟨y9,hy9,hst9⟩:=one_state HPT9.out (aw3_l g).1
 have hn9:=pt_lens HPT9.out
 have hl9:=aw3_l g
 have hl9n:=aw3_n g
 have HST:=hid (stateX_some HP9.out (call:=1) (k:=0) (by unfold idx;rw [if_pos (by omega)];rfl) hy9 (by omega))
 rw [HX9.out,hst9] at HST
 unfold BPost at HST
 obtain ⟨OA,oc,hov⟩:=HP9.out.out.own.shape
 obtain ⟨EA,ec,hev⟩:=HP9.out.ev.own.shape
 rw [hn9.2.1,hl9.2.1] at hov
 rw [hn9.2.2,hl9.2.2] at hev
 have HO:=hid (outboxX HP9.out)
 have hno:=HP9.out.noOut
 have HE:=hid (eventsX hno.1)
 dsimp only at HE
 rw [HX9.out] at HO HE hno
 rw [hov] at HO
 rw [hev] at HE
 generalize hW:w9.setCell ⟨x0,5,none⟩ (.slice none 0 0)=w10 at HO HE hno
 have HK:=hid hno.2.keep
 have HKX:=hid (HNW9.out x0 (by rw [←HX9.out,HP9.out.tx];exact fun h=>by cases h))
 clear hy9 hst9 hn9 hl9 hl9n hov hev hno
 go_wp2_with (first
  | (go_at_call 19
     (with_reducible refine HST.out.mono ?_)
     rintro e w9b ⟨rfl,rfl⟩)
  | (go_at_call 12
     (with_reducible refine HO.out.mono ?_)
     rintro e w9b ⟨rfl,rfl⟩)
  | (go_at_call 14
     (with_reducible refine HE.out.mono ?_)
     rintro e w9b ⟨rfl,rfl⟩))
 go_ret
 refine ⟨rfl,?_⟩
 refine (HSM9.out.trans HK.out (fun i hi e=>?_)).trans ((Keep.refl (· = x0) _).put 6 (.slice none 0 0)) (fun i hi e=>?_)
 ·have e2:i=x0:=e
  have:=HKX.out
  omega
 ·have e2:i=x0:=e
  have:=HKX.out
  omega
end Go.Proofs.YtbjddfiledoaoaaGreat

import Derived.Test.YtbjddfiledoaoaaGreatWireS
namespace Go.Proofs.YtbjddfiledoaoaaGreat
open Go.RowKit
structure Rq (w:World) (rb:Nat) (Av:Nat→Prop) (A:Option Addr) (n c:Nat) (s:RS):Prop where
 top:Blk w rb 213 #[.slice A n c,.int .i64 s.err]
 sl:s.err=0→Sl w (fun i=>Av i∨i=rb) 1 A n (bcells s.rest)∧n≤c
 av:¬Av rb
section
variable {w w':World} {S Av Av':Nat→Prop} {rb:Nat} {A:Option Addr} {n c:Nat} {s:RS}
theorem Rq.keep (h:Rq w rb Av A n c s) (hk:Keep S w w') (hS:∀ i,i<w.heap.size→S i→Av i):Rq w' rb Av A n c s :=
 ⟨h.top.keep hk (fun hs=>h.av (hS _ h.top.lt hs)),fun e=>⟨(h.sl e).1.keep hk (fun i hi hs=>.inl (hS i hi hs)),(h.sl e).2⟩,h.av⟩
theorem Rq.same (h:Rq w rb Av A n c s) (hk:Same w w'):Rq w' rb Av A n c s:=h.keep hk (fun _ _ f=>f.elim)
theorem Rq.wide (h:Rq w rb Av A n c s) (hS:∀ i,i<w.heap.size→Av' i→Av i):Rq w rb Av' A n c s :=
 ⟨h.top,fun e=>⟨(h.sl e).1.wide (fun i hi hs=>hs.elim (fun a=>.inl (hS i hi a)) .inr),(h.sl e).2⟩,fun a=>h.av (hS _ h.top.lt a)⟩
end
def RqPost (w:World) (rb:Nat) (Av:Nat→Prop) (s:RS) (v:Value) (e:Ending) (w':World):Prop :=
 ∃ A n c,e=.returned v∧Rq w' rb Av A n c s∧Keep (· = rb) w w'
theorem rdU_bound:∀ (k U x:Nat),k≤9→U<128 ^ k→(k=9→x % 128≤1)→U+x % 128 * 128 ^ k<18446744073709551616:=by
 intro k U x hk hU h9
 have hp9:(128:Nat) ^ 9=9223372036854775808:=by decide
 have hp8:(128:Nat) ^ 8=72057594037927936:=by decide
 by_cases h:k=9
 ·have h1:=h9 h
  have h2:128 ^ k=9223372036854775808:=by rw [h,hp9]
  have h3:=Nat.mul_le_mul_right (128 ^ k) h1
  clear hp9 hp8
  omega
 ·have hle8:128 ^ k≤72057594037927936:=by rw [←hp8];exact Nat.pow_le_pow_right (by decide) (by clear hp9 hp8 hU;omega)
  have h1:x % 128≤127:=by omega
  have h3:=Nat.mul_le_mul h1 hle8
  have h4:127 * 72057594037927936+72057594037927936≤18446744073709551616:=by decide
  exact Nat.lt_of_lt_of_le (Nat.add_lt_add_of_lt_of_le (Nat.lt_of_lt_of_le hU hle8) h3) (by rw [Nat.add_comm];exact h4)
section
variable (w:World) (rb:Nat) (Av:Nat→Prop) (A:Option Addr) (n c:Nat)
def QLoop (l0:List UInt8) (u b i:Value):Prop :=
 ∃ (k:Nat) (U P:Int),k≤9∧i=.int .i64 k∧u=.int .u64 U∧b=.int .u64 P∧P=((128 ^ k:Nat):Int)∧0≤U∧U.toNat<128 ^ k∧rdU k U.toNat (l0.drop k)=rdU 0 0 l0∧k≤l0.length
set_option maxRecDepth 100000 in
set_option maxHeartbeats 8000000 in
theorem qInt_ok (l0:List UInt8) (h:Rq w rb Av A n c ⟨l0,0⟩) (hn:n≤1000000000) :
 Calls Tryz.prog 132 #[.pointer (some ⟨rb,0,none⟩)] w (RqPost w rb Av (rdInt ⟨l0,0⟩).2 (.int .i64 (rdInt ⟨l0,0⟩).1)):=by
 obtain ⟨hsl,hcap⟩:=h.sl rfl
 have hl:l0.length=n:=by have:=hsl.len;simpa [bcells] using this
 have c0:w.cell? ⟨rb,0,none⟩=some (.slice A n c):=h.top.at_ 0
 have c1:w.cell? ⟨rb,1,none⟩=some (.int .i64 0):=h.top.at_ 1
 have f0:=h.top.free 0
 have f1:=h.top.free 1
 have hrb:=h.top.lt
 have hbad:∀ (e:Int) (u:Nat) (r:List UInt8),rdU 0 0 l0=(u,r,e)→¬e=0→RqPost w rb Av (rdInt ⟨l0,0⟩).2 (.int .i64 (rdInt ⟨l0,0⟩).1) (.returned (.int .i64 0)) (w.setCell ⟨rb,1,none⟩ (.int .i64 e)):=by
  intro e u r hu he
  unfold rdInt
  simp only [not_true_eq_false,if_false,hu,he]
  refine ⟨A,n,c,rfl,⟨?_,fun e'=>absurd e' he,h.av⟩,(Keep.refl _ w).put _ _⟩
  have:=h.top.put 1 (.int .i64 e)
  simpa using this
 have hgood:∀ (u k:Nat) (A':Option Addr) (c':Nat),k<n→rdU 0 0 l0=(u,l0.drop (k+1),0)→(k+1<n→A'=A.map (·.add (k+1)))→n - (k+1)≤c' →
  RqPost w rb Av (rdInt ⟨l0,0⟩).2 (.int .i64 (rdInt ⟨l0,0⟩).1) (.returned (.int .i64 (unzig u))) (w.setCell ⟨rb,0,none⟩ (.slice A' (n - (k+1)) c')):=by
  intro u k A' c' hk hu hA hc
  unfold rdInt
  simp only [not_true_eq_false,if_false,hu,if_true]
  have hkk:Keep (· = rb) w (w.setCell ⟨rb,0,none⟩ (.slice A' (n - (k+1)) c')):=(Keep.refl _ w).put _ _
  refine ⟨A',n - (k+1),c',rfl,⟨?_,fun _=>⟨⟨?_,fun h0=>?_⟩,hc⟩,h.av⟩,hkk⟩
  ·have:=h.top.put 0 (.slice A' (n - (k+1)) c')
   simpa using this
  ·rw [bcells_len,List.length_drop,hl];omega
  ·obtain ⟨b,off,rfl,hb,ha,hr⟩:=hsl.at_ (by omega)
   refine ⟨b,off+(k+1),by rw [hA (by omega)];simp [add_blk],by simpa using hb,ha,?_⟩
   have hd:=hr.drop (k+1)
   have e:(bcells l0).drop (k+1)=bcells (l0.drop (k+1)):=by simp [bcells,List.map_drop]
   rw [e] at hd
   exact hd.keep hkk hb (fun e=>ha (.inr e))
 have HB:=hid hbad
 have HG:=hid hgood
 have HS:=hid hsl
 have HL:=hid hl
 clear h hsl hl hbad hgood
 go_enter Tryz.func132,Tryz.ntmps132
 go_wp2
 go_loop [3,4,5] (fun u b i=>QLoop l0 u b i) (fun _ _ i=>10 - (RowKit.intOf i).toNat)
 case atStart=>exact ⟨0,0,1,by omega,rfl,rfl,rfl,rfl,by omega,by simp,rfl,by omega⟩
 case round =>
  obtain ⟨k,U,P,hk,rfl,rfl,rfl,hP,hU,hUk,hrd,hkl⟩:=hrel
  have HP:=hid hP
  have HUK:=hid hUk
  have HRD:=hid hrd
  clear hP hUk hrd
  by_cases hkn:k<n
  ·obtain ⟨x,hx⟩:=get_some (l:=l0) (k:=k) (by have:=HL.out;omega)
   obtain ⟨bb,off,rfl,hb,ha,hr⟩:=HS.out.at_ (by omega)
   have q0:w.cell? ⟨bb,off+k,none⟩=some (.int .u8 x.toNat):=hr k _ (by simp [bcells,hx,bv])
   have hx256:=x.toNat_lt
   have hdr:l0.drop k=x :: l0.drop (k+1):=by
    obtain ⟨h1,rfl⟩:=List.getElem?_eq_some_iff.1 hx
    exact List.drop_eq_getElem_cons h1
   have hr2:=HRD.out
   rw [hdr,rdU] at hr2
   have HR2:=hid hr2
   clear hr hdr hr2 hx
   by_cases hbad:(k=9∧¬x.toNat=1)∨(0<k∧x.toNat=0)
   ·have hq:=HR2.out
    rw [if_pos hbad] at hq
    have HQ:=hid (HB.out 2 _ _ hq.symm (by omega))
    clear hq
    rcases hbad with ⟨rfl,hb1⟩ | ⟨hb0,hb1⟩
    ·have hx1:((x.toNat:Int) != 1)=true:=by simp;omega
     clear hb1
     go_wp2
     go_ret
     exact HQ.out
    ·rw [hb1] at q0
     by_cases hk9:k=9
     ·subst hk9
      go_wp2
      go_ret
      exact HQ.out
     ·have hk9':((k:Int) == 9)=false:=by simp;omega
      go_wp2
      go_ret
      exact HQ.out
   ·have hq:=HR2.out
    rw [if_neg hbad] at hq
    have HQ:=hid hq
    have h9:k=9→x.toNat=1:=by intro h;omega
    have hbd:=rdU_bound k U.toNat x.toNat hk HUK.out (by intro h;have:=h9 h;omega)
    obtain ⟨V,hV⟩:∃ V:Int,V=U+(x.toNat:Int) % 128 * P:=⟨_,rfl⟩
    have hVn:V=((U.toNat+x.toNat % 128 * 128 ^ k:Nat):Int):=by rw [hV,HP.out];simp;omega
    have hV0:0≤V:=by rw [hVn];exact Int.natCast_nonneg _
    have hV1:V≤18446744073709551615:=by rw [hVn];exact Int.ofNat_le.2 (Nat.le_of_lt_succ hbd)
    have hP0:0≤(x.toNat:Int) % 128 * P:=Int.mul_nonneg (by omega) (by rw [HP.out];exact Int.natCast_nonneg _)
    have hw1:IntKind.u64.wrap ((x.toNat:Int) % 128 * P)=(x.toNat:Int) % 128 * P:=by rw [IntKind.wrap_u64];omega
    have hw2:IntKind.u64.wrap (U+(x.toNat:Int) % 128 * P)=V:=by rw [IntKind.wrap_u64];omega
    have HVN:=hid hVn
    have hx9:k=9→((x.toNat:Int) != 1)=false:=by intro h;rw [h9 h];decide
    have HX9:=hid hx9
    have HBAD:=hid hbad
    clear hq hbad hbd hV hVn hP0 hx9 h9
    have hfin:∀ (A':Option Addr) (c':Nat),x.toNat<128→(k+1<n→A'=some ⟨bb,off+(k+1),none⟩)→n - (k+1)≤c'→RqPost w rb Av (rdInt ⟨l0,0⟩).2 (.int .i64 (rdInt ⟨l0,0⟩).1) (.returned (.int .i64 (unzig V.toNat))) (w.setCell ⟨rb,0,none⟩ (.slice A' (n - (k+1)) c')):=by
     intro A' c' hs hA hc
     have hq:=HQ.out
     rw [if_pos hs] at hq
     refine HG.out V.toNat k A' c' hkn ?_ (fun h=>by rw [hA h];simp [add_blk]) hc
     rw [←hq,HVN.out,Int.toNat_natCast,Nat.mod_eq_of_lt hs]
    have HF:=hid hfin
    have hnext:¬x.toNat<128→V.toNat<128 ^ (k+1)∧rdU (k+1) V.toNat (l0.drop (k+1))=rdU 0 0 l0∧k+1≤9:=by
     intro hs
     have hq:=HQ.out
     rw [if_neg hs] at hq
     refine ⟨by rw [HVN.out,Int.toNat_natCast];exact vlt HUK.out,by rw [HVN.out,Int.toNat_natCast];exact hq,?_⟩
     have:=HBAD.out;omega
    have HN:=hid hnext
    have hw3:∃ P':Int,IntKind.u64.wrap (P * 128)=P'∧(k+1≤9→P'=((128 ^ (k+1):Nat):Int)):=⟨_,rfl,fun h=>by
     have h9:(128:Nat) ^ (k+1)≤128 ^ 9:=Nat.pow_le_pow_right (by decide) h
     have e9:(128:Nat) ^ 9=9223372036854775808:=by decide
     have hs:(128:Nat) ^ (k+1)=128 ^ k * 128:=Nat.pow_succ ..
     rw [IntKind.wrap_u64,HP.out]
     rw [e9] at h9
     clear e9
     omega⟩
    obtain ⟨P',hw3,hP'⟩:=hw3
    have HP':=hid hP'
    have hpar:V % 2=1→unzig V.toNat = -(V / 2) - 1:=by intro h;unfold unzig;rw [if_neg (by omega)];omega
    have hpar2:¬V % 2=1→unzig V.toNat=V / 2:=by intro h;unfold unzig;rw [if_pos (by omega)];omega
    have HPAR:=hid hpar
    have HPAR2:=hid hpar2
    clear hfin hnext hP' hpar hpar2
    have hks:(k=0∧∃ bq:Bool,((x.toNat:Int) == 0)=bq)∨(((k:Int) == 9)=false∧((x.toNat:Int) == 0)=false)∨(k=9∧((x.toNat:Int) != 1)=false∧((x.toNat:Int) == 0)=false):=by
     have hb:=HBAD.out
     by_cases h0:k=0
     ·exact .inl ⟨h0,_,rfl⟩
     ·by_cases h9:k=9
      ·refine .inr (.inr ⟨h9,HX9.out h9,?_⟩);simp;omega
      ·refine .inr (.inl ⟨by simp;omega,by simp;omega⟩)
    clear HX9 HBAD HQ HR2 HB HG
    by_cases hs:x.toNat<128
    ·by_cases hc:c=k+1
     ·have hn1:n=k+1:=by omega
      by_cases hp:V % 2=1
      ·have hp':(V % 2 == 1)=true:=by simpa using hp
       rcases hks with ⟨rfl,bq,x0⟩ | ⟨k9,x0⟩ | ⟨rfl,x1,x0⟩
       ·rw [Nat.add_zero] at q0
        cases bq
        all_goals
         go_wp2
         go_ret
         have hz:=HF.out (some ⟨bb,off,none⟩) 0 hs (by omega) (by omega)
         rw [HPAR.out hp] at hz
         first | exact hz | (simp [hn1] at hz ⊢;exact hz)
       ·go_wp2
        go_ret
        have hz:=HF.out (some ⟨bb,off,none⟩) 0 hs (by omega) (by omega)
        rw [HPAR.out hp] at hz
        first | exact hz | (simp [hn1] at hz ⊢;exact hz)
       ·go_wp2
        go_ret
        have hz:=HF.out (some ⟨bb,off,none⟩) 0 hs (by omega) (by omega)
        rw [HPAR.out hp] at hz
        first | exact hz | (simp [hn1] at hz ⊢;exact hz)
      ·have hp':(V % 2 == 1)=false:=by simpa using hp
       rcases hks with ⟨rfl,bq,x0⟩ | ⟨k9,x0⟩ | ⟨rfl,x1,x0⟩
       ·rw [Nat.add_zero] at q0
        cases bq
        all_goals
         go_wp2
         go_ret
         have hz:=HF.out (some ⟨bb,off,none⟩) 0 hs (by omega) (by omega)
         rw [HPAR2.out hp] at hz
         first | exact hz | (simp [hn1] at hz ⊢;exact hz)
       ·go_wp2
        go_ret
        have hz:=HF.out (some ⟨bb,off,none⟩) 0 hs (by omega) (by omega)
        rw [HPAR2.out hp] at hz
        first | exact hz | (simp [hn1] at hz ⊢;exact hz)
       ·go_wp2
        go_ret
        have hz:=HF.out (some ⟨bb,off,none⟩) 0 hs (by omega) (by omega)
        rw [HPAR2.out hp] at hz
        first | exact hz | (simp [hn1] at hz ⊢;exact hz)
     ·have hc':¬(c:Int)=k+1:=by omega
      by_cases hp:V % 2=1
      ·have hp':(V % 2 == 1)=true:=by simpa using hp
       rcases hks with ⟨rfl,bq,x0⟩ | ⟨k9,x0⟩ | ⟨rfl,x1,x0⟩
       ·rw [Nat.add_zero] at q0
        cases bq
        all_goals
         go_wp2
         go_ret
         have hz:=HF.out (some ⟨bb,off+(0+1),none⟩) (c - (0+1)) hs (fun _=>rfl) (by omega)
         rw [HPAR.out hp] at hz
         first | exact hz | (simp  at hz ⊢;exact hz)
       ·go_wp2
        go_ret
        have hz:=HF.out (some ⟨bb,off+(k+1),none⟩) (c - (k+1)) hs (fun _=>rfl) (by omega)
        rw [HPAR.out hp] at hz
        first | exact hz | (simp  at hz ⊢;exact hz)
       ·go_wp2
        go_ret
        have hz:=HF.out (some ⟨bb,off+(9+1),none⟩) (c - (9+1)) hs (fun _=>rfl) (by omega)
        rw [HPAR.out hp] at hz
        first | exact hz | (simp  at hz ⊢;exact hz)
      ·have hp':(V % 2 == 1)=false:=by simpa using hp
       rcases hks with ⟨rfl,bq,x0⟩ | ⟨k9,x0⟩ | ⟨rfl,x1,x0⟩
       ·rw [Nat.add_zero] at q0
        cases bq
        all_goals
         go_wp2
         go_ret
         have hz:=HF.out (some ⟨bb,off+(0+1),none⟩) (c - (0+1)) hs (fun _=>rfl) (by omega)
         rw [HPAR2.out hp] at hz
         first | exact hz | (simp  at hz ⊢;exact hz)
       ·go_wp2
        go_ret
        have hz:=HF.out (some ⟨bb,off+(k+1),none⟩) (c - (k+1)) hs (fun _=>rfl) (by omega)
        rw [HPAR2.out hp] at hz
        first | exact hz | (simp  at hz ⊢;exact hz)
       ·go_wp2
        go_ret
        have hz:=HF.out (some ⟨bb,off+(9+1),none⟩) (c - (9+1)) hs (fun _=>rfl) (by omega)
        rw [HPAR2.out hp] at hz
        first | exact hz | (simp  at hz ⊢;exact hz)
    ·obtain ⟨hn1,hn2,hn3⟩:=HN.out hs
     have HN1:=hid hn1
     have HN2:=hid hn2
     have hlk:k+1≤l0.length:=by have:=HL.out;omega
     clear hn1 hn2
     rcases hks with ⟨rfl,bq,x0⟩ | ⟨k9,x0⟩ | ⟨rfl,x1,x0⟩
     ·rw [Nat.add_zero] at q0
      cases bq
      all_goals
       go_wp2
       go_round
       case rel=>exact ⟨1,V,P',by omega,rfl,rfl,rfl,HP'.out hn3,hV0,HN1.out,HN2.out,hlk⟩
       case measure=>simp [RowKit.intOf]
     ·go_wp2
      go_round
      case rel=>exact ⟨k+1,V,P',hn3,by go_num,rfl,rfl,HP'.out hn3,hV0,HN1.out,HN2.out,hlk⟩
      case measure=>simp [RowKit.intOf];omega
     ·exact absurd hn3 (by omega)
  ·have hkn':k=n:=by have:=HL.out;omega
   have hq:=HRD.out
   rw [List.drop_eq_nil_of_le (by have:=HL.out;omega),rdU] at hq
   have HQ:=hid (HB.out 11 _ _ hq.symm (by omega))
   clear hq hkl hkn
   subst hkn'
   go_wp2
   go_ret
   exact HQ.out
end
section
variable (w:World) (rb:Nat) (Av:Nat→Prop) (A:Option Addr) (n c:Nat)
theorem Rq.len {w:World} {rb:Nat} {Av:Nat→Prop} {A:Option Addr} {n c:Nat} {s:RS} (h:Rq w rb Av A n c s) (he:s.err=0):s.rest.length=n:=by have:=(h.sl he).1.len;simpa [bcells] using this
set_option maxHeartbeats 2000000 in
theorem qInt_any (s:RS) (h:Rq w rb Av A n c s) (hsz:s.rest.length≤1000000000) :
 Calls Tryz.prog 132 #[.pointer (some ⟨rb,0,none⟩)] w (RqPost w rb Av (rdInt s).2 (.int .i64 (rdInt s).1)):=by
 by_cases he:s.err=0
 ·have hl:=h.len he
  rw [rs_of he] at h ⊢
  exact qInt_ok w rb Av A n c s.rest h (by omega)
 ·rw [rdInt_err he]
  have H:=hid h
  have c1:w.cell? ⟨rb,1,none⟩=some (.int .i64 s.err):=h.top.at_ 1
  have he':(s.err != 0)=true:=by simpa using he
  clear h he
  go_enter Tryz.func132,Tryz.ntmps132
  go_wp2
  go_ret
  exact ⟨A,n,c,rfl,H.out,Keep.refl _ _⟩
theorem Rq.fail {w:World} {rb:Nat} {Av:Nat→Prop} {A:Option Addr} {n c:Nat} {s:RS} (h:Rq w rb Av A n c s) (e:Int) (he:¬e=0):Rq (w.setCell ⟨rb,1,none⟩ (.int .i64 e)) rb Av A n c ⟨[],e⟩:=by
 refine ⟨?_,fun e'=>absurd e' he,h.av⟩
 have:=h.top.put 1 (.int .i64 e)
 simpa using this
set_option maxHeartbeats 2000000 in
theorem many_any (s:RS) (h:Rq w rb Av A n c s) (hsz:s.rest.length≤1000000000) :
 Calls Tryz.prog 148 #[.pointer (some ⟨rb,0,none⟩)] w (RqPost w rb Av (rdMany s).2 (.int .i64 (rdMany s).1)):=by
 have HI:=hid (qInt_any w rb Av A n c s h hsz)
 have hl:=rdInt_len s
 unfold rdMany
 generalize rdInt s=q at *
 obtain ⟨v,l1,e1⟩:=q
 simp only at HI hl ⊢
 clear h
 by_cases he:e1=0
 ·subst he
  simp only [not_true_eq_false,if_false]
  by_cases hv:v<0
  ·rw [if_pos hv]
   go_enter Tryz.func148,Tryz.ntmps148
   go_wp2_with fail
   refine HI.out.mono ?_
   rintro e w2 ⟨A2,n2,c2,rfl,g1,g2⟩
   have c0:w2.cell? ⟨rb,0,none⟩=some (.slice A2 n2 c2):=g1.top.at_ 0
   have c1:w2.cell? ⟨rb,1,none⟩=some (.int .i64 0):=g1.top.at_ 1
   have f1:=g1.top.free 1
   have G1:=hid (g1.fail 2 (by omega))
   have G2:=hid (g2.put 1 (.int .i64 2))
   clear g1 g2
   go_wp2
   go_ret
   exact ⟨A2,n2,c2,rfl,G1.out,G2.out⟩
  ·rw [if_neg hv]
   by_cases hm:(l1.length:Int)<v
   ·rw [if_pos hm]
    go_enter Tryz.func148,Tryz.ntmps148
    go_wp2_with fail
    refine HI.out.mono ?_
    rintro e w2 ⟨A2,n2,c2,rfl,g1,g2⟩
    have c0:w2.cell? ⟨rb,0,none⟩=some (.slice A2 n2 c2):=g1.top.at_ 0
    have c1:w2.cell? ⟨rb,1,none⟩=some (.int .i64 0):=g1.top.at_ 1
    have f1:=g1.top.free 1
    have hl2:(n2:Int)<v:=by have:=g1.len rfl;simp only at this;omega
    have hl3:n2≤1000000000:=by have:=g1.len rfl;simp only at this;omega
    have G1:=hid (g1.fail 11 (by omega))
    have G2:=hid (g2.put 1 (.int .i64 11))
    clear g1 g2 hm
    go_wp2
    go_ret
    exact ⟨A2,n2,c2,rfl,G1.out,G2.out⟩
   ·rw [if_neg hm]
    go_enter Tryz.func148,Tryz.ntmps148
    go_wp2_with fail
    refine HI.out.mono ?_
    rintro e w2 ⟨A2,n2,c2,rfl,g1,g2⟩
    have c0:w2.cell? ⟨rb,0,none⟩=some (.slice A2 n2 c2):=g1.top.at_ 0
    have c1:w2.cell? ⟨rb,1,none⟩=some (.int .i64 0):=g1.top.at_ 1
    have hl2:v≤(n2:Int):=by have:=g1.len rfl;simp only at this;omega
    have hl3:n2≤1000000000:=by have:=g1.len rfl;simp only at this;omega
    have G1:=hid g1
    have G2:=hid g2
    clear g1 g2 hm
    go_wp2
    go_ret
    exact ⟨A2,n2,c2,rfl,G1.out,G2.out⟩
 ·simp only [he,not_false_eq_true,if_true]
  have he':(e1 != 0)=true:=by simpa using he
  clear he
  go_enter Tryz.func148,Tryz.ntmps148
  go_wp2_with fail
  refine HI.out.mono ?_
  rintro e w2 ⟨A2,n2,c2,rfl,g1,g2⟩
  have c1:w2.cell? ⟨rb,1,none⟩=some (.int .i64 e1):=g1.top.at_ 1
  have G1:=hid g1
  have G2:=hid g2
  clear g1 g2
  go_wp2
  go_ret
  exact ⟨A2,n2,c2,rfl,G1.out,G2.out⟩
set_option maxHeartbeats 2000000 in
theorem end_any (s:RS) (h:Rq w rb Av A n c s) (hsz:s.rest.length≤1000000000) :
 Calls Tryz.prog 133 #[.pointer (some ⟨rb,0,none⟩)] w fun e w'=>e=.returned (.int .i64 (endE s))∧w=w':=by
 have c0:w.cell? ⟨rb,0,none⟩=some (.slice A n c):=h.top.at_ 0
 have c1:w.cell? ⟨rb,1,none⟩=some (.int .i64 s.err):=h.top.at_ 1
 have hl:=fun e=>h.len e
 obtain ⟨l,er⟩:=s
 simp only at hl hsz c0 c1
 unfold endE
 simp only
 clear h
 by_cases he:er=0
 ·subst he
  have hl:=hl rfl
  rw [if_pos rfl]
  by_cases hn:n=0
  ·subst hn
   rw [if_pos (List.eq_nil_of_length_eq_zero hl)]
   clear hl
   go_enter Tryz.func133,Tryz.ntmps133
   go_wp2
   go_ret
   exact ⟨rfl,rfl⟩
  ·rw [if_neg (by rintro rfl;simp at hl;omega)]
   have h0:0<n:=by omega
   have h1:n≤1000000000:=by omega
   clear hl hn
   go_enter Tryz.func133,Tryz.ntmps133
   go_wp2
   go_ret
   exact ⟨rfl,rfl⟩
 ·rw [if_neg he]
  have he':(er == 0)=false:=by simpa using he
  clear he hl
  go_enter Tryz.func133,Tryz.ntmps133
  go_wp2
  go_ret
  exact ⟨rfl,rfl⟩
end
def TqPost (w:World) (rb:Nat) (Av:Nat→Prop) (t:Tg) (s:RS) (e:Ending) (w':World):Prop :=
 ∃ A n c x,e=.returned (.agg (Tm.cells x).toArray)∧x.pt=t∧TmOk w' (· < w.heap.size) x∧Rq w' rb Av A n c s∧Keep (· = rb) w w'
theorem keep5 (w2:World) (g:Nat) (v0 v1 v2 v3 v4:Value):Keep (· = g) w2 (((((w2.setCell ⟨g,0,none⟩ v0).setCell ⟨g,1,none⟩ v1).setCell ⟨g,2,none⟩ v2).setCell ⟨g,3,none⟩ v3).setCell ⟨g,4,none⟩ v4) :=
 (((((Keep.refl _ w2).put 0 _).put 1 _).put 2 _).put 3 _).put 4 _
theorem Rq.adv {w:World} {rb:Nat} {Av:Nat→Prop} {A:Option Addr} {n c:Nat} {l:List UInt8} (h:Rq w rb Av A n c ⟨l,0⟩) (k:Nat) (hk:k≤n) (A':Option Addr) (c':Nat) (hA:k<n→A'=A.map (·.add k)) (hc:n - k≤c') :
 Rq (w.setCell ⟨rb,0,none⟩ (.slice A' (n - k) c')) rb Av A' (n - k) c' ⟨l.drop k,0⟩:=by
 obtain ⟨hsl,hcap⟩:=h.sl rfl
 have hl:l.length=n:=h.len rfl
 have hkk:Keep (· = rb) w (w.setCell ⟨rb,0,none⟩ (.slice A' (n - k) c')):=(Keep.refl _ w).put _ _
 refine ⟨?_,fun _=>⟨⟨?_,fun h0=>?_⟩,hc⟩,h.av⟩
 ·have:=h.top.put 0 (.slice A' (n - k) c')
  simpa using this
 ·rw [bcells_len,List.length_drop,hl];omega
 ·obtain ⟨b,off,rfl,hb,ha,hr⟩:=hsl.at_ (by omega)
  refine ⟨b,off+k,by rw [hA (by omega)];simp [add_blk],by simpa using hb,ha,?_⟩
  have hd:=hr.drop k
  have e:(bcells l).drop k=bcells (l.drop k):=by simp [bcells,List.map_drop]
  rw [e] at hd
  exact hd.keep hkk hb (fun e=>ha (.inr e))
section
variable (w:World) (rb:Nat) (Av:Nat→Prop) (A:Option Addr) (n c:Nat)
set_option maxRecDepth 100000 in
set_option maxHeartbeats 4000000 in
theorem get3_any (s:RS) (h:Rq w rb Av A n c s) (hsz:s.rest.length≤1000000000) :
 Calls Tryz.prog 131 #[.pointer (some ⟨rb,0,none⟩),.int .i64 3] w (TqPost w rb Av (getT 3 s).1 (getT 3 s).2):=by
 have hka:Same w ((w.alloc (.cells #[.int .i64 0,.int .i64 0,.bool false,.string ⟨#[]⟩,.slice none 0 0] 171)).alloc (.cells #[.int .i64 3,.int .i64 0,.bool false,.string ⟨#[]⟩,.slice none 0 0] 171)):=((Keep.refl _ w).alloc _).alloc _
 have hR:=(h.wide (Av':=fun i=>Av i∨i=w.heap.size∨i=w.heap.size+1) (fun i hi hs=>by rcases hs with hs | hs;exact hs;omega)).same hka
 have hrb:=h.top.lt
 have HB1:=hid ((Blk.made w 171 #[.int .i64 0,.int .i64 0,.bool false,.string ⟨#[]⟩,.slice none 0 0]).alloc (.cells #[.int .i64 3,.int .i64 0,.bool false,.string ⟨#[]⟩,.slice none 0 0] 171))
 have hb2:=Blk.made (w.alloc (.cells #[.int .i64 0,.int .i64 0,.bool false,.string ⟨#[]⟩,.slice none 0 0] 171)) 171 #[.int .i64 3,.int .i64 0,.bool false,.string ⟨#[]⟩,.slice none 0 0]
 rw [World.size_alloc] at hb2
 have HB2:=hid hb2
 have HK:=hid hka
 have HC:=hid (many_any _ rb (fun i=>Av i∨i=w.heap.size∨i=w.heap.size+1) A n c s hR hsz)
 have hlen:=rdMany_len s
 have hfit:=@rdMany_fit s
 rw [show getT 3 s=(⟨3,0,false,(rdBytes s).1,[]⟩,(rdBytes s).2) by simp [getT]]
 unfold rdBytes
 clear h hb2 hka hR
 generalize rdMany s=q at *
 obtain ⟨v,l1,e1⟩:=q
 simp only at HC hlen hfit ⊢
 by_cases he:e1=0
 ·subst he
  obtain ⟨hv0,hv1⟩:=hfit rfl
  obtain ⟨kn,rfl⟩:=Int.eq_ofNat_of_zero_le hv0
  rw [if_neg (by simp)]
  simp only [Int.toNat_natCast]
  clear hfit hv0
  go_enter Tryz.func131,Tryz.ntmps131
  go_wp2_with fail
  refine HC.out.mono ?_
  rintro e w2 ⟨A2,n2,c2,rfl,g1,g2⟩
  have b1:=HB1.out.keep g2 (by omega)
  have b2:=HB2.out.keep g2 (by omega)
  have x0:w2.cell? ⟨w.heap.size+1,0,none⟩=some (.int .i64 3):=b2.at_ 0
  have x1:w2.cell? ⟨w.heap.size+1,1,none⟩=some (.int .i64 0):=b2.at_ 1
  have x2:w2.cell? ⟨w.heap.size+1,2,none⟩=some (.bool false):=b2.at_ 2
  have x3:w2.cell? ⟨w.heap.size+1,3,none⟩=some (.string ⟨#[]⟩):=b2.at_ 3
  have x4:w2.cell? ⟨w.heap.size+1,4,none⟩=some (.slice none 0 0):=b2.at_ 4
  have y0:w2.cell? ⟨w.heap.size,0,none⟩=some (.int .i64 0):=b1.at_ 0
  have y1:w2.cell? ⟨w.heap.size,1,none⟩=some (.int .i64 0):=b1.at_ 1
  have y2:w2.cell? ⟨w.heap.size,2,none⟩=some (.bool false):=b1.at_ 2
  have y3:w2.cell? ⟨w.heap.size,3,none⟩=some (.string ⟨#[]⟩):=b1.at_ 3
  have y4:w2.cell? ⟨w.heap.size,4,none⟩=some (.slice none 0 0):=b1.at_ 4
  have f0:=b2.free
  have f1:=b1.free
  have z1:=b2.lt
  have c0:w2.cell? ⟨rb,0,none⟩=some (.slice A2 n2 c2):=g1.top.at_ 0
  have c1:w2.cell? ⟨rb,1,none⟩=some (.int .i64 0):=g1.top.at_ 1
  have fr:=g1.top.free 0
  have hrb2:=g1.top.lt
  obtain ⟨hsl,hcap⟩:=g1.sl rfl
  have hl2:l1.length=n2:=g1.len rfl
  have hkn:kn≤n2:=by omega
  have hkc:kn≤c2:=by omega
  have hn2:n2≤1000000000:=by omega
  have hst:=hsl.take kn hkn
  rw [Nat.mul_one,show (bcells l1).take kn=bcells (l1.take kn) by simp [bcells,List.map_take]] at hst
  have hcv:=conv_str w2 _ A2 kn c2 (l1.take kn) hst
  have G1:=hid g1
  have HG2:=hid g2
  have Hl2:=hid hl2
  have hA2:0<n2→∃ b off,A2=some ⟨b,off,none⟩:=fun h0=>by obtain ⟨b,off,e,_⟩:=hsl.at_ h0;exact ⟨b,off,e⟩
  have HA2:=hid hA2
  clear g1 g2 b1 b2 hsl hst hl2 hv1 hlen HC hA2
  have hfin:∀ (A':Option Addr) (c':Nat) (v0 v1 v2 v3 v4:Value),(kn<n2→A'=A2.map (·.add kn))→n2 - kn≤c'→∀ W',W'=((((((w2.setCell ⟨w.heap.size+1,3,none⟩ (.string (strOf (l1.take kn)))).setCell ⟨rb,0,none⟩ (.slice A' (n2 - kn) c')).setCell ⟨w.heap.size,0,none⟩ v0).setCell ⟨w.heap.size,1,none⟩ v1).setCell ⟨w.heap.size,2,none⟩ v2).setCell ⟨w.heap.size,3,none⟩ v3).setCell ⟨w.heap.size,4,none⟩ v4 →
   TqPost w rb Av ⟨3,0,false,l1.take kn,[]⟩ ⟨l1.drop kn,0⟩ (.returned (.agg (Tm.cells ⟨3,0,false,strOf (l1.take kn),none,0,0,[]⟩).toArray)) W':=by
   rintro A' c' v0 v1 v2 v3 v4 hA hc W' rfl
   have ha:=(G1.out.keep (S:=(· = w.heap.size+1)) ((Keep.refl _ w2).put 3 (.string (strOf (l1.take kn)))) (fun i _ e=>.inr (.inr e))).adv kn hkn A' c' hA hc
   have hk5:=keep5 ((w2.setCell ⟨w.heap.size+1,3,none⟩ (.string (strOf (l1.take kn)))).setCell ⟨rb,0,none⟩ (.slice A' (n2 - kn) c')) w.heap.size v0 v1 v2 v3 v4
   refine ⟨A',n2 - kn,c',_,rfl,by simp [Tm.pt,strOf_list],⟨Sl.nil _ _ _ _⟩,?_,?_⟩
   ·exact (ha.keep hk5 (fun i _ e=>.inr (.inl e))).wide (fun _ _ h=>.inl h)
   ·have h1:=((HK.out.wide (T:=(· = rb)) (fun _ _ f=>f.elim)).trans HG2.out (fun _ _ h=>h)).trans ((Keep.refl (· = w.heap.size+1) w2).put 3 (.string (strOf (l1.take kn)))) (fun i hi e=>by omega)
    have h2:=h1.put 0 (.slice A' (n2 - kn) c')
    exact h2.trans hk5 (fun i hi e=>by omega)
  have HF:=hid hfin
  clear hfin
  by_cases hc:c2=kn
  ·have hn:n2=kn:=by omega
   subst hn
   subst hc
   go_wp2
   refine bodyPost_ret (v:=.agg (Tm.cells ⟨3,0,false,strOf (l1.take c2),none,0,0,[]⟩).toArray) (by simp [results,Tryz.results131,go_sem,Tm.cells,y0,y1,y2,y3,y4]) rfl ?_
   have hz:=HF.out A2 0 (.int .i64 3) (.int .i64 0) (.bool false) (.string (strOf (l1.take c2))) (.slice none 0 0) (by omega) (by omega) _ rfl
   rw [Nat.sub_self] at hz
   exact hz
  ·have hc':¬(c2:Int)=kn:=by omega
   by_cases hnk:kn<n2
   ·obtain ⟨b,off,rfl⟩:=HA2.out (by omega)
    go_wp2
    refine bodyPost_ret (v:=.agg (Tm.cells ⟨3,0,false,strOf (l1.take kn),none,0,0,[]⟩).toArray) (by simp [results,Tryz.results131,go_sem,Tm.cells,y0,y1,y2,y3,y4]) rfl ?_
    exact HF.out (some ⟨b,off+kn,none⟩) (c2 - kn) (.int .i64 3) (.int .i64 0) (.bool false) (.string (strOf (l1.take kn))) (.slice none 0 0) (fun _=>by simp [add_blk]) (by omega) _ rfl
   ·have hnk2:n2=kn:=by omega
    subst hnk2
    cases A2 with
    | none =>
      go_wp2
      refine bodyPost_ret (v:=.agg (Tm.cells ⟨3,0,false,strOf (l1.take n2),none,0,0,[]⟩).toArray) (by simp [results,Tryz.results131,go_sem,Tm.cells,y0,y1,y2,y3,y4]) rfl ?_
      have hz:=HF.out none (c2 - n2) (.int .i64 3) (.int .i64 0) (.bool false) (.string (strOf (l1.take n2))) (.slice none 0 0) (by omega) (by omega) _ rfl
      rw [Nat.sub_self] at hz
      exact hz
    | some ad =>
      go_wp2
      refine bodyPost_ret (v:=.agg (Tm.cells ⟨3,0,false,strOf (l1.take n2),none,0,0,[]⟩).toArray) (by simp [results,Tryz.results131,go_sem,Tm.cells,y0,y1,y2,y3,y4]) rfl ?_
      have hz:=HF.out (some (ad.add n2)) (c2 - n2) (.int .i64 3) (.int .i64 0) (.bool false) (.string (strOf (l1.take n2))) (.slice none 0 0) (by omega) (by omega) _ rfl
      rw [Nat.sub_self] at hz
      first | exact hz | simpa using hz
 ·rw [if_pos he]
  have he':(e1 == 0)=false:=by simpa using he
  clear he hfit
  go_enter Tryz.func131,Tryz.ntmps131
  go_wp2_with fail
  refine HC.out.mono ?_
  rintro e w2 ⟨A2,n2,c2,rfl,g1,g2⟩
  have b1:=HB1.out.keep g2 (by omega)
  have b2:=HB2.out.keep g2 (by omega)
  have x0:w2.cell? ⟨w.heap.size+1,0,none⟩=some (.int .i64 3):=b2.at_ 0
  have x1:w2.cell? ⟨w.heap.size+1,1,none⟩=some (.int .i64 0):=b2.at_ 1
  have x2:w2.cell? ⟨w.heap.size+1,2,none⟩=some (.bool false):=b2.at_ 2
  have x3:w2.cell? ⟨w.heap.size+1,3,none⟩=some (.string ⟨#[]⟩):=b2.at_ 3
  have x4:w2.cell? ⟨w.heap.size+1,4,none⟩=some (.slice none 0 0):=b2.at_ 4
  have y0:w2.cell? ⟨w.heap.size,0,none⟩=some (.int .i64 0):=b1.at_ 0
  have y1:w2.cell? ⟨w.heap.size,1,none⟩=some (.int .i64 0):=b1.at_ 1
  have y2:w2.cell? ⟨w.heap.size,2,none⟩=some (.bool false):=b1.at_ 2
  have y3:w2.cell? ⟨w.heap.size,3,none⟩=some (.string ⟨#[]⟩):=b1.at_ 3
  have y4:w2.cell? ⟨w.heap.size,4,none⟩=some (.slice none 0 0):=b1.at_ 4
  have f0:=b2.free
  have f1:=b1.free
  have z1:=b2.lt
  have c1:w2.cell? ⟨rb,1,none⟩=some (.int .i64 e1):=g1.top.at_ 1
  have hrb2:=g1.top.lt
  have G1:=hid g1
  have HG2:=hid g2
  clear g1 g2 b1 b2 HC
  go_wp2
  refine bodyPost_ret (v:=.agg (Tm.cells ⟨3,0,false,⟨#[]⟩,none,0,0,[]⟩).toArray) (by simp [results,Tryz.results131,go_sem,Tm.cells,y0,y1,y2,y3,y4]) rfl ?_
  exact ⟨A2,n2,c2,⟨3,0,false,⟨#[]⟩,none,0,0,[]⟩,rfl,rfl,⟨Sl.nil _ _ _ _⟩,(G1.out.keep (keep5 _ _ _ _ _ _ _) (fun i _ e=>.inr (.inl e))).wide (fun _ _ h=>.inl h),((HK.out.wide (T:=(· = rb)) (fun _ _ f=>f.elim)).trans HG2.out (fun _ _ h=>h)).trans (keep5 _ _ _ _ _ _ _) (fun i hi e=>by omega)⟩
end
end Go.Proofs.YtbjddfiledoaoaaGreat

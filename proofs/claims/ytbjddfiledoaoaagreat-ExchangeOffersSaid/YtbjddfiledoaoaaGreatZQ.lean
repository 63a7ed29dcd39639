import Derived.Test.YtbjddfiledoaoaaGreatZP
namespace Go.Proofs.YtbjddfiledoaoaaGreat
open Go.RowKit
theorem encI_len {n:Int} (k:Nat) (h : -1≤n) (hk:n.toNat * 2+1<128 ^ (k+1)):(encI n).length≤k+1:=by
 refine Lib.uvarint_length k _ ?_
 unfold Lib.zigzag
 split <;> omega
theorem encI_1 {n:Int} (h : -1≤n) (g:n<63):(encI n).length≤1:=encI_len 0 h (by show _<128;omega)
theorem encI_2 {n:Int} (h : -1≤n) (g:n<8191):(encI n).length≤2:=encI_len 1 h (by show _<16384;omega)
theorem encI_4 {n:Int} (h : -1≤n) (g:n<134217727):(encI n).length≤4:=encI_len 3 h (by show _<268435456;omega)
theorem encI_6 {n:Int} (h : -1≤n) (g:n≤1099511627776):(encI n).length≤6:=encI_len 5 h (by show _<4398046511104;omega)
theorem encIs_by {c:Nat}:∀ (l:List Int),(∀ x∈l,(encI x).length≤c)→(encIs l).length≤l.length * c
 | [],_=>by simp [encIs]
 | x :: l,h=>by
   have h1:=encIs_by l (fun y hy=>h y (List.mem_cons_of_mem _ hy))
   have h2:=h x (List.mem_cons_self ..)
   rw [encIs_cons,List.length_append,List.length_cons,Nat.succ_mul]
   omega
theorem encCL_t {s:CL} (h:VL s):(encCL s).length≤267:=by
 have h1:=encI_6 (n:=s.call) (by have:=h.call;omega) h.call.2
 have h2:=encI_1 (n:=s.st) (by have:=h.st;omega) (by have:=h.st;omega)
 have h3:(encI s.since).length≤6:=by
  by_cases e:s.st=1∨s.st=3
  ·have:=h.wait e;exact encI_6 (by omega) (by omega)
  ·rw [h.busy e];exact encI_6 (by omega) (by omega)
 have h4:(encI s.cen).length≤1:=by rcases h.own with e | e <;> exact encI_1 (by omega) (by omega)
 have h5:(encI s.ep).length≤6:=by rcases h.own with e | e <;> exact encI_6 (by omega) (by omega)
 have h6:s.name.data.toList.length≤40:=by
  rcases h.prot with e | e
  ·have:=e.1.2
   rw [Array.length_toList];exact this
  ·rw [e.1];simp
 have h7:(encI s.ver).length≤4:=by rcases h.prot with e | e <;> exact encI_4 (by omega) (by omega)
 have h8:=encI_1 (n:=(s.name.data.toList.length:Int)) (by omega) (by omega)
 have h9:=encI_2 (n:=(s.ans.length:Int)) (by omega) (by have:=h.n;omega)
 have h10:=encIs_by (c:=1) s.ans (fun x hx=>by have:=h.el x hx;exact encI_1 (by omega) (by omega))
 have h11:=h.n
 unfold encCL encD encL
 simp only [List.length_append]
 omega
theorem encS_t:∀ (l:List Src),(∀ s∈l,okS s=true)→(encS l).length≤l.length * 404
 | [],_=>by simp [encS]
 | s :: l,h=>by
   have h1:=encS_t l (fun y hy=>h y (List.mem_cons_of_mem _ hy))
   have h2:=h s (List.mem_cons_self ..)
   unfold okS at h2
   simp only [Bool.and_eq_true,decide_eq_true_eq,List.all_eq_true] at h2
   obtain ⟨⟨⟨a1,a2⟩,a3⟩,a4⟩:=h2
   have h3:=encI_2 (n:=s.k) (by omega) (by omega)
   have h4:=encI_2 (n:=(s.nd.length:Int)) (by omega) (by omega)
   have h5:=encIs_by (c:=2) s.nd (fun x hx=>by have:=a4 x hx;exact encI_2 (by omega) (by omega))
   have e:encS (s :: l)=encI s.k++(encI s.nd.length++encIs s.nd)++encS l:=by simp [encS,encL]
   rw [e,List.length_append,List.length_append,List.length_append,List.length_cons,Nat.succ_mul]
   omega
theorem body_le {l:Ln} (h:VL l.s) (hd:0≤l.d∧l.d<9) (hs:SrcT l.src):(bodyL l).length≤8100:=by
 have h1:=encCL_t h
 have h2:=encI_2 (n:=((encCL l.s).length:Int)) (by omega) (by omega)
 have h3:=encI_1 (n:=l.d) (by omega) (by omega)
 have h4:=encI_1 (n:=(l.src.length:Int)) (by omega) (by have:=hs.1;omega)
 have h5:=encS_t l.src hs.2
 have h6:=hs.1
 unfold bodyL encD
 simp only [List.length_append]
 omega
theorem vM_off {l:Ln} (h:VL l.s) (hd:0≤l.d∧l.d<9) (hs:SrcT l.src) (hc:0≤l.s.cen∧l.s.cen<9):vM (offM l)=true:=by
 refine vM_iff.2 ⟨⟨show (1:Int)≤4 by decide,show (4:Int)≤10 by decide⟩,vN_mk (by have:=h.call;simp only [offM];omega) h.call.2,vN_mk ?_ ?_,vN_mk (by simp only [offM];omega) (by have:=h.n;simp only [offM];omega),vC_iff.2 hd,vC_iff.2 hc,body_le h hd hs⟩
 ·rcases h.own with e | e <;> simp only [offM] <;> omega
 ·rcases h.own with e | e <;> simp only [offM] <;> omega
def offP (X:XS) (l:Ln):Pk:=⟨X.cen,l.s.cen,encM (offM l)⟩
structure OTI (X:XS) (N:Int) (Y:XS):Prop where
 cen:Y.cen=X.cen
 rt:Y.rt=X.rt
 n:Y.L.length=X.L.length
 ln:∀ (i:Nat) (l:Ln),X.L[i]? = some l→∃ t,Y.L[i]? = some { l with last:=t }∧(t≤N∨l.s.st=5∨offP X l∈Y.out)
 out:∀ p∈Y.out,∃ (i:Nat) (l:Ln),X.L[i]? = some l∧l.s.st≠5∧p=offP X l
theorem OTI.start {X:XS} {N:Int} (h:∀ (i:Nat) (l:Ln),X.L[i]? = some l→l.last≤N):OTI X N { X with out:=[] } :=
 ⟨rfl,rfl,rfl,fun i l hl=>⟨l.last,hl,.inl (h i l hl)⟩,fun p hp=>by cases hp⟩
theorem off_pt {X Y:XS} {N t:Int} {l:Ln} (h:OTI X N Y):(⟨Y.cen,l.s.cen,encM (offM { l with last:=t })⟩:Pk)=offP X l:=by rw [h.cen];rfl
theorem OTI.step {X Y:XS} {N:Int} (h:OTI X N Y) (now:Int) (j:Nat):OTI X N (stepT now Y j)∧(∀ p∈Y.out,p∈(stepT now Y j).out) ∧
 (N+2 * X.rt≤now→∀ l,X.L[j]? = some l→l.s.st≠5→offP X l∈(stepT now Y j).out):=by
 unfold stepT
 cases hj:Y.L[j]? with
 | none=>exact ⟨h,fun _ hp=>hp,fun _ l hl=>by
    have:=(List.getElem?_eq_some_iff.1 hl).1
    rw [List.getElem?_eq_none_iff,h.n] at hj
    omega⟩
 | some m =>
   have hjl:=(List.getElem?_eq_some_iff.1 hj).1
   obtain ⟨l0,hl0⟩:=get_some (l:=X.L) (k:=j) (by rw [←h.n];exact hjl)
   obtain ⟨t0,ht0,hor⟩:=h.ln j l0 hl0
   rw [hj] at ht0
   injection ht0 with ht0
   by_cases hc:m.s.st≠5∧2 * Y.rt≤now - m.last
   ·simp only
    rw [if_pos hc]
    have hs0:l0.s.st≠5:=by rw [ht0] at hc;exact hc.1
    have hp:(⟨Y.cen,m.s.cen,encM (offM m)⟩:Pk)=offP X l0:=by rw [ht0];exact off_pt h
    have hout:(Y.offer j m now).out=Y.out++[offP X l0]:=by rw [←hp];rfl
    refine ⟨⟨h.cen,h.rt,by rw [←h.n];simp [XS.offer],fun i l hl=>?_,fun p hpp=>?_⟩,fun p hpp=>by rw [hout];exact List.mem_append_left _ hpp,fun _ l hl _=>by
     rw [hl0] at hl
     injection hl with hl
     rw [hout,←hl];exact List.mem_append_right _ (List.mem_singleton.2 rfl)⟩
    ·show ∃ t,(Y.L.set j _)[i]? = _∧_
     by_cases q:j=i
     ·subst q
      rw [hl0] at hl
      injection hl with hl
      subst hl
      refine ⟨max m.last now,?_,.inr (.inr (by rw [hout];exact List.mem_append_right _ (List.mem_singleton.2 rfl)))⟩
      rw [List.getElem?_set_self hjl,ht0]
     ·obtain ⟨t,ht,ho⟩:=h.ln i l hl
      refine ⟨t,by rw [List.getElem?_set_ne q];exact ht,ho.imp id (fun e=>e.imp id (fun e=>by rw [hout];exact List.mem_append_left _ e))⟩
    ·rw [hout] at hpp
     rcases List.mem_append.1 hpp with e | e
     ·exact h.out p e
     ·rw [List.mem_singleton] at e
      exact ⟨j,l0,hl0,hs0,e⟩
   ·simp only
    rw [if_neg hc]
    refine ⟨h,fun _ hp=>hp,fun hn l hl hst=>?_⟩
    rw [hl0] at hl
    injection hl with hl
    subst hl
    rcases hor with e | e | e
    ·exfalso
     refine hc ⟨by rw [ht0];exact hst,?_⟩
     rw [ht0,h.rt]
     simp only
     omega
    ·exact absurd e hst
    ·exact e
theorem OTI.ticks {X Y:XS} {N:Int} (h:OTI X N Y) (now:Int):∀ j,OTI X N (Y.tickN now j)∧(∀ p∈Y.out,p∈(Y.tickN now j).out) ∧
 (N+2 * X.rt≤now→∀ i l,i<j→X.L[i]? = some l→l.s.st≠5→offP X l∈(Y.tickN now j).out)
 | 0=>⟨h,fun _ hp=>hp,fun _ i _ hi=>by omega⟩
 | j+1=>by
   obtain ⟨h1,h2,h3⟩:=OTI.ticks h now j
   obtain ⟨g1,g2,g3⟩:=h1.step now j
   rw [tickN_succ]
   refine ⟨g1,fun p hp=>g2 p (h2 p hp),fun hn i l hi hl hst=>?_⟩
   rcases Nat.lt_or_ge i j with e | e
   ·exact g2 _ (h3 hn i l e hl hst)
   ·obtain rfl:i=j:=by omega
    exact g3 hn l hl hst
theorem OTI.tick {X Y:XS} {N:Int} (h:OTI X N Y) (now:Int) (hv:vN now 0=true):OTI X N (Y.tick now) ∧
 (N+2 * X.rt≤now→∀ (i:Nat) l,X.L[i]? = some l→l.s.st≠5→offP X l∈(Y.tick now).out):=by
 unfold XS.tick
 rw [if_pos hv]
 obtain ⟨h1,_,h3⟩:=h.ticks now Y.L.length
 exact ⟨h1,fun hn i l hl hst=>h3 hn i l (by rw [h.n];exact (List.getElem?_eq_some_iff.1 hl).1) hl hst⟩
def XS.ticksN (X:XS) (N:Int):Nat→XS
 | 0=>X
 | j+1=>(X.ticksN N j).tick (N+j+1)
theorem OTI.all {X:XS} {N:Int} (h:OTI X N { X with out:=[] }) (h0:0≤N):∀ j:Nat,N+j≤1099511627776→OTI X N (({ X with out:=[] }:XS).ticksN N j) ∧
 (2 * X.rt≤(j:Int)→1≤j→∀ (i:Nat) l,X.L[i]? = some l→l.s.st≠5→offP X l∈(({ X with out:=[] }:XS).ticksN N j).out)
 | 0,_=>⟨h,fun _ h1=>by omega⟩
 | j+1,hj=>by
   obtain ⟨h1,h2⟩:=OTI.all h h0 j (by omega)
   obtain ⟨g1,g2⟩:=h1.tick (N+j+1) (vN_mk (by omega) (by omega))
   exact ⟨g1,fun hn _=>g2 (by omega)⟩
theorem ticksN_len (X:XS) (N:Int):∀ j,(X.ticksN N j).L.length=X.L.length∧(X.ticksN N j).out.length≤X.out.length+j * X.L.length∧(X.ticksN N j).ev=X.ev
 | 0=>⟨rfl,by simp [XS.ticksN],rfl⟩
 | j+1=>by
   obtain ⟨h1,h2,h3⟩:=ticksN_len X N j
   show ((X.ticksN N j).tick _).L.length=_∧((X.ticksN N j).tick _).out.length≤_∧((X.ticksN N j).tick _).ev=_
   unfold XS.tick
   split
   ·have g1:=(tickN_eq (X.ticksN N j) (N+j+1) (X.ticksN N j).L.length).n
    have g2:=tickN_len (X.ticksN N j) (N+j+1) (X.ticksN N j).L.length
    refine ⟨by omega,?_,g2.2.trans h3⟩
    rw [Nat.succ_mul]
    omega
   ·refine ⟨h1,?_,h3⟩
    rw [Nat.succ_mul]
    omega
end Go.Proofs.YtbjddfiledoaoaaGreat

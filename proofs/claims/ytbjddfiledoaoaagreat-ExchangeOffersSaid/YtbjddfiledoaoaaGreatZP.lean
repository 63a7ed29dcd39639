import Derived.Test.YtbjddfiledoaoaaGreatYV
namespace Go.Proofs.YtbjddfiledoaoaaGreat
open Go.RowKit
theorem dec_enc {m:Nt} (h:vM m=true):rawM (encM m)=m∧errM (encM m)=0:=by
 obtain ⟨h1,h2,h3,h4,h5,h6⟩:=vM_ok h
 have h7:=(vM_iff.1 h).2.2.2.2.2.2
 have he:encM m=encI m.k++(encI m.call++(encI m.d++(encI m.c++(encI m.e++(encI m.n++(encD m.body++[])))))):=by
  unfold encM;rw [if_pos h];simp only [List.append_assoc,List.append_nil]
 have e1:dr1 (encM m)=(m.k,⟨encI m.call++(encI m.d++(encI m.c++(encI m.e++(encI m.n++(encD m.body++[]))))),0⟩):=by unfold dr1;rw [he];exact rdInt_enc h1 _
 have e2:dr2 (encM m)=(m.call,⟨encI m.d++(encI m.c++(encI m.e++(encI m.n++(encD m.body++[])))),0⟩):=by unfold dr2;rw [e1];exact rdInt_enc h2 _
 have e3:dr3 (encM m)=(m.d,⟨encI m.c++(encI m.e++(encI m.n++(encD m.body++[]))),0⟩):=by unfold dr3;rw [e2];exact rdInt_enc h3 _
 have e4:dr4 (encM m)=(m.c,⟨encI m.e++(encI m.n++(encD m.body++[])),0⟩):=by unfold dr4;rw [e3];exact rdInt_enc h4 _
 have e5:dr5 (encM m)=(m.e,⟨encI m.n++(encD m.body++[]),0⟩):=by unfold dr5;rw [e4];exact rdInt_enc h5 _
 have e6:dr6 (encM m)=(m.n,⟨encD m.body++[],0⟩):=by unfold dr6;rw [e5];exact rdInt_enc h6 _
 have e7:dr7 (encM m)=(m.body,⟨[],0⟩):=by unfold dr7;rw [e6];exact rdBytes_enc (by omega) _
 have hr:rawM (encM m)=m:=by unfold rawM;rw [e1,e2,e3,e4,e5,e6,e7]
 refine ⟨hr,?_⟩
 unfold errM
 rw [hr,e7,if_pos (by rfl),if_pos h]
theorem err_nil:errM []=11:=by kernel_rfl
theorem encM_no {m:Nt} (h:¬vM m=true):encM m=[]:=by unfold encM;rw [if_neg h]
structure Evo (N C:Int) (l l':Ln):Prop where
 kept:Kept l.s l'.s
 d:l'.d=l.d
 src:l'.src=l.src
 last:l'.last≤max N l.last
 own:(l'.s.cen=l.s.cen∧l'.s.ep=l.s.ep)∨(0≤l'.s.cen∧l'.s.cen<C)∧1≤l'.s.ep
theorem Kept.trans {a b c:CL} (h:Kept a b) (g:Kept b c):Kept a c :=
 ⟨fun k=>g.ok (h.ok k),Int.le_trans h.ep g.ep,by
  obtain ⟨x,hx⟩:=h.ans
  obtain ⟨y,hy⟩:=g.ans
  exact ⟨x++y,by rw [hy,hx,List.append_assoc]⟩,fun e=>by
  have e1:=h.closed e
  rw [g.closed (by rw [e1];exact e),e1]⟩
theorem Evo.refl (N C:Int) (l:Ln):Evo N C l l:=⟨Kept.refl _,rfl,rfl,by omega,.inl ⟨rfl,rfl⟩⟩
theorem Evo.trans {N C:Int} {a b c:Ln} (h:Evo N C a b) (g:Evo N C b c):Evo N C a c :=
 ⟨h.kept.trans g.kept,g.d.trans h.d,g.src.trans h.src,by have:=h.last;have:=g.last;omega,by
  rcases g.own with ⟨e1,e2⟩ | e
  ·rcases h.own with ⟨f1,f2⟩ | f
   ·exact .inl ⟨e1.trans f1,e2.trans f2⟩
   ·rw [e1,e2];exact .inr f
  ·exact .inr e⟩
def SrcT (l:List Src):Prop:=l.length≤16∧∀ s∈l,okS s=true
structure LEvo (N C:Int) (L L':List Ln):Prop where
 n:L.length≤L'.length
 old:∀ (i:Nat) (l:Ln),L[i]? = some l→∃ l',L'[i]? = some l'∧Evo N C l l'
 new:∀ (i:Nat) (l':Ln),L.length≤i→L'[i]? = some l'→SrcT l'.src∧l'.last≤max N 0∧(0≤l'.s.cen∧l'.s.cen<C)∧1≤l'.s.ep
theorem LEvo.refl (N C:Int) (L:List Ln):LEvo N C L L:=⟨Nat.le_refl _,fun i l h=>⟨l,h,Evo.refl _ _ _⟩,fun i l h g=>by
 have:=(List.getElem?_eq_some_iff.1 g).1
 omega⟩
theorem LEvo.trans {N C:Int} {A B D:List Ln} (h:LEvo N C A B) (g:LEvo N C B D):LEvo N C A D:=by
 refine ⟨Nat.le_trans h.n g.n,fun i l hl=>?_,fun i l hi hl=>?_⟩
 ·obtain ⟨b,hb,e1⟩:=h.old i l hl
  obtain ⟨c,hc,e2⟩:=g.old i b hb
  exact ⟨c,hc,e1.trans e2⟩
 ·rcases Nat.lt_or_ge i B.length with hb | hb
  ·obtain ⟨b,hb⟩:=get_some hb
   obtain ⟨c,hc,e⟩:=g.old i b hb
   rw [hl] at hc
   injection hc with hc
   subst hc
   obtain ⟨h1,h2,h3,h4⟩:=h.new i b hi hb
   refine ⟨by rw [e.src];exact h1,by have:=e.last;omega,?_⟩
   rcases e.own with ⟨e1,e2⟩ | e
   ·rw [e1,e2];exact ⟨h3,h4⟩
   ·exact e
  ·exact g.new i l hb hl
theorem LEvo.set {N C:Int} {L:List Ln} {i:Nat} {l l':Ln} (hl:L[i]? = some l) (e:Evo N C l l'):LEvo N C L (L.set i l'):=by
 refine ⟨by simp,fun j m hm=>?_,fun j m hj hm=>?_⟩
 ·by_cases q:i=j
  ·subst q
   rw [hl] at hm
   injection hm with hm
   subst hm
   exact ⟨l',by rw [List.getElem?_set_self (List.getElem?_eq_some_iff.1 hl).1],e⟩
  ·exact ⟨m,by rw [List.getElem?_set_ne q];exact hm,Evo.refl _ _ _⟩
 ·have h1:=(List.getElem?_eq_some_iff.1 hm).1
  rw [List.length_set] at h1
  omega
section
variable {X:XS} {N now:Int} {i:Nat} {l:Ln}
theorem evo_offer (hl:X.L[i]? = some l) (hn:now≤N):LEvo N X.cen X.L (X.offer i l now).L :=
 LEvo.set hl ⟨Kept.refl _,rfl,rfl,by simp only;omega,.inl ⟨rfl,rfl⟩⟩
theorem evo_put {l':Ln} (hl:X.L[i]? = some l) (k:Kept l.s l'.s) (so:SameOwn l.s l'.s) (hd:l'.d=l.d) (hs:l'.src=l.src) (ht:l'.last≤max N l.last):LEvo N X.cen X.L (X.put i l').L :=
 LEvo.set hl ⟨k,hd,hs,ht,.inl ⟨so.cen,so.ep⟩⟩
theorem evo_putoff {l':Ln} (hl:X.L[i]? = some l) (k:Kept l.s l'.s) (so:SameOwn l.s l'.s) (hd:l'.d=l.d) (hs:l'.src=l.src) (ht:l'.last=l.last) (e:Ev) (hn:now≤N):LEvo N X.cen X.L (((X.put i l').evt e).offer i l' now).L:=by
 show LEvo N X.cen X.L ((X.L.set i l').set i { l' with last:=max l'.last now })
 rw [List.set_set]
 exact LEvo.set hl ⟨k,hd,hs,by simp only;omega,.inl ⟨so.cen,so.ep⟩⟩
theorem evo_bind (h:XOk X) (hl:X.L[i]? = some l) (hn:now≤N):LEvo N X.cen X.L (X.bind i l now).L:=by
 obtain ⟨_,h2,_⟩:=h.ln i l hl
 obtain ⟨a,b,_,_,he,ha,hb,_⟩:=h.hold h2
 unfold XS.bind
 show LEvo N X.cen X.L ((X.L.set i _).set i _)
 rw [List.set_set]
 refine LEvo.set hl ⟨assign_kept _ _ _ _,rfl,rfl,by simp only;omega,?_⟩
 simp only
 unfold assignS
 split
 ·simp only
  rw [he]
  exact .inr ⟨ha,hb⟩
 ·exact .inl ⟨rfl,rfl⟩
theorem evo_stepT (hn:now≤N) (j:Nat):LEvo N X.cen X.L (stepT now X j).L:=by
 unfold stepT
 split
 ·split
  ·exact evo_offer ‹_› hn
  ·exact LEvo.refl _ _ _
 ·exact LEvo.refl _ _ _
theorem evo_tickN (hn:now≤N):∀ j,LEvo N X.cen X.L (X.tickN now j).L
 | 0=>LEvo.refl _ _ _
 | j+1=>by
   rw [tickN_succ]
   have h:=evo_stepT (X:=X.tickN now j) (N:=N) hn j
   rw [(tickN_eq X now j).cen] at h
   exact (evo_tickN hn j).trans h
theorem evo_stepC (h:XOk X) (d:Int) (hn:now≤N) (j:Nat):LEvo N X.cen X.L (stepC d now X j).L:=by
 unfold stepC
 split
 ·split
  ·exact evo_bind h ‹_› hn
  ·exact LEvo.refl _ _ _
 ·exact LEvo.refl _ _ _
theorem evo_claimN (h:XOk X) (hv:vN now 0=true) (d:Int) (hn:now≤N):∀ j,LEvo N X.cen X.L (X.claimN d now j).L
 | 0=>LEvo.refl _ _ _
 | j+1=>by
   rw [claimN_succ]
   have g:=evo_stepC (claimN_ok h hv d j) d hn j
   rw [(claimN_eq X d now j).cen] at g
   exact (evo_claimN h hv d hn j).trans g
theorem evo_claim (h:XOk X) {m:Nt} (hm:vM m=true) (hc:0≤m.c∧m.c<X.cen) (hv:vN now 0=true) (hn:now≤N):LEvo N X.cen X.L (X.claim m now).L:=by
 unfold XS.claim
 split
 ·rename_i hh
  have h1:=vN_true (vM_iff.1 hm).2.2.1
  have h2:=vC_true (vM_iff.1 hm).2.2.2.2.1
  have hwl:=h.wl
  obtain ⟨a,b,_,_,he,_,hb⟩:=h.hold (d:=m.d) ⟨h2.1,by omega⟩
  rw [he] at hh
  exact evo_claimN (X:=X.take m) (h.take hc ⟨by simp only at hh;omega,h1.2⟩) hv m.d hn _
 ·exact LEvo.refl _ _ _
theorem evo_ack {k:Nat} (hl:X.L[k]? = some l) (m:Nt) (hn:now≤N):LEvo N X.cen X.L (X.ack k l m now).L:=by
 unfold XS.ack
 split
 ·have so:=accept_so l.s m.e ⟨(ackR m.body).1.toArray⟩ (ackR m.body).2.1
  exact LEvo.set hl ⟨accept_kept _ _ _ _,rfl,rfl,by simp only;split <;> omega,.inl ⟨so.cen,so.ep⟩⟩
 ·exact LEvo.refl _ _ _
theorem evo_hear (h:XOk X) {m:Nt} (hm:vM m=true) (hc:0≤m.c∧m.c<X.cen) (hv:vN now 0=true) (hn:now≤N):LEvo N X.cen X.L (X.hear m now).L:=by
 unfold XS.hear
 split
 ·exact evo_claim h hm hc hv hn
 ·split
  ·exact LEvo.refl _ _ _
  ·split
   ·exact LEvo.refl _ _ _
   ·rename_i k hk l hl
    split
    ·exact LEvo.refl _ _ _
    ·split
     ·exact evo_ack hl m hn
     ·split
      ·exact evo_put hl (back_kept _ _) (back_so _ _) rfl rfl (by simp only;omega)
      ·split
       ·exact evo_put hl (l':={ l with s:=closeS l.s m.e }) (close_kept _ _) (close_so _ _) rfl rfl (by simp only;omega)
       ·exact LEvo.refl _ _ _
theorem fvS_t (l:List Src):SrcT (fvS l):=⟨by unfold fvS;rw [List.length_take];omega,fun s hs=>(List.mem_filter.1 (List.mem_of_mem_take hs)).2⟩
theorem evo_dial (h:XOk X) (node:Int) (src:List Src) (hn:vN now 0=true→now≤N):LEvo N X.cen X.L (X.dial node src now).L:=by
 unfold XS.dial
 split
 ·rename_i hE
  have hE2:(0≤node∧node<X.dis.length)∧vN now 0=true:=by
   unfold XS.dialE at hE
   split at hE
   ·assumption
   ·cases hE
  obtain ⟨d,hd,hd0,hd1⟩:=dis_at h hE2.1
  have hn:=hn hE2.2
  rw [hd]
  simp only [Option.getD_some]
  have hA:=dial_assign h (call:=(X.L.length:Int)+1) (src:=src) ⟨hd0,hd1⟩ hE2.2
  obtain ⟨a,b,_,_,he,ha,hb,_⟩:=h.hold ⟨hd0,hd1⟩
  show LEvo N X.cen X.L (((X.L++[newL ((X.L.length:Int)+1) d now src]).set X.L.length _).set X.L.length _)
  rw [List.set_set,List.set_append_right _ _ (Nat.le_refl _),Nat.sub_self]
  refine ⟨by simp,fun j m hm=>⟨m,by rw [List.getElem?_append_left (List.getElem?_eq_some_iff.1 hm).1];exact hm,Evo.refl _ _ _⟩,fun j m hj hm=>?_⟩
  rw [List.getElem?_append_right hj] at hm
  have hj2:=(List.getElem?_eq_some_iff.1 hm).1
  simp at hj2
  obtain rfl:j=X.L.length:=by omega
  rw [Nat.sub_self] at hm
  simp only [List.set_cons_zero,List.getElem?_cons_zero,Option.some.injEq] at hm
  subst hm
  have hh:((X.add (newL ((X.L.length:Int)+1) d now src)).evt ⟨2,now,d,(X.L.length:Int)+1,0,0⟩).hold d=X.hold d:=rfl
  refine ⟨fvS_t src,by simp only [newL];omega,?_⟩
  have hS:assignS (newL ((X.L.length:Int)+1) d now src).s (X.hold d).1 (X.hold d).2 now=_:=if_pos hA
  show (0≤(assignS (newL ((X.L.length:Int)+1) d now src).s (X.hold d).1 (X.hold d).2 now).cen∧(assignS (newL ((X.L.length:Int)+1) d now src).s (X.hold d).1 (X.hold d).2 now).cen<X.cen)∧1≤(assignS (newL ((X.L.length:Int)+1) d now src).s (X.hold d).1 (X.hold d).2 now).ep
  rw [hS]
  show (0≤(X.hold d).1∧(X.hold d).1<X.cen)∧1≤(X.hold d).2
  rw [he]
  exact ⟨ha,hb⟩
 ·exact LEvo.refl _ _ _
theorem LEvo.act (h:XOk X) (a:AT) (body:List UInt8) (hn:vN a.now 0=true→a.now≤N):LEvo N X.cen X.L (actX X a body).L:=by
 unfold actX
 split
 ·exact evo_dial h _ _ hn
 ·split
  ·unfold XS.ansS
   split
   ·rename_i hE
    have hv:vN a.now 0=true:=by
     unfold XS.ansE at hE
     split at hE
     ·assumption
     ·cases hE
    split
    ·exact LEvo.refl _ _ _
    ·split
     ·rename_i l hl
      exact evo_putoff (l':={ l with s:=sayS l.s a.n }) hl (say_kept _ _) (say_so _ _) rfl rfl rfl _ (hn hv)
     ·exact LEvo.refl _ _ _
   ·exact LEvo.refl _ _ _
  ·split
   ·unfold XS.hangS
    split
    ·rename_i hE
     have hv:vN a.now 0=true:=by
      unfold XS.hangE at hE
      split at hE
      ·assumption
      ·cases hE
     split
     ·exact LEvo.refl _ _ _
     ·split
      ·rename_i l hl
       exact evo_putoff (l':={ l with s:=Go.Proofs.YtbjddfiledoaoaaGreat.hangS l.s a.now }) hl (hang_kept _ _) (hang_so _ _) rfl rfl rfl _ (hn hv)
      ·exact LEvo.refl _ _ _
    ·exact LEvo.refl _ _ _
   ·split
    ·unfold XS.recv
     split
     ·rename_i hc
      split
      ·rename_i he
       exact evo_hear h (errM_vM he.1) (by rw [he.2];exact hc.2.2) hc.1 (hn hc.1)
      ·exact LEvo.refl _ _ _
     ·exact LEvo.refl _ _ _
    ·split
     ·unfold XS.tick
      split
      ·rename_i hv;exact evo_tickN (hn hv) _
      ·exact LEvo.refl _ _ _
     ·split
      ·exact LEvo.refl _ _ _
      ·exact LEvo.refl _ _ _
end
end Go.Proofs.YtbjddfiledoaoaaGreat

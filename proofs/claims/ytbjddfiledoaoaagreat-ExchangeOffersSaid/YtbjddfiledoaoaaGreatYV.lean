import Derived.Test.YtbjddfiledoaoaaGreatYSa
import Derived.Test.YtbjddfiledoaoaaGreatYT
namespace Go.Proofs.YtbjddfiledoaoaaGreat
open Go.RowKit
section
variable {X:XS} {now:Int}
theorem XOk.ans (h:XOk X) (call a:Int):XOk (X.ansS call a now):=by
 unfold XS.ansS
 split
 ·rename_i hE
  split
  ·exact h
  ·split
   ·rename_i k _ _ l hl
    obtain ⟨h1,h2,h3⟩:=h.ln k l hl
    have hv:vN now 0=true:=by
     unfold XS.ansE at hE
     split at hE
     ·assumption
     ·cases hE
    have h4:(sayS l.s a).call=(k:Int)+1:=by unfold sayS;split <;> exact h3
    exact ((h.put (l':={ l with s:=sayS l.s a }) (h1.to (say_vl h1.vl a)) h2 h4).evt _).offer (h1.to (say_vl h1.vl a)) h2 h4 hv
   ·exact h
 ·exact h
theorem XOk.hang (h:XOk X) (call:Int):XOk (X.hangS call now):=by
 unfold XS.hangS
 split
 ·rename_i hE
  split
  ·exact h
  ·split
   ·rename_i k _ _ l hl
    obtain ⟨h1,h2,h3⟩:=h.ln k l hl
    have hv:vN now 0=true:=by
     unfold XS.hangE at hE
     split at hE
     ·assumption
     ·cases hE
    have h4:(Go.Proofs.YtbjddfiledoaoaaGreat.hangS l.s now).call=(k:Int)+1:=by unfold Go.Proofs.YtbjddfiledoaoaaGreat.hangS;split <;> exact h3
    exact ((h.put (l':={ l with s:=Go.Proofs.YtbjddfiledoaoaaGreat.hangS l.s now }) (h1.to (hang_vl h1.vl now)) h2 h4).evt _).offer (h1.to (hang_vl h1.vl now)) h2 h4 hv
   ·exact h
 ·exact h
theorem XOk.tick (h:XOk X):XOk (X.tick now):=by
 unfold XS.tick
 split
 ·rename_i hv;exact tickN_ok h hv _
 ·exact h
theorem XOk.recv (h:XOk X) (f t:Int) (b:List UInt8):XOk (X.recv f t b now):=by
 unfold XS.recv
 split
 ·rename_i hc
  split
  ·rename_i he
   exact h.hear (errM_vM he.1) (by rw [he.2];exact hc.2.2) hc.1
  ·exact h
 ·exact h
theorem act_ok (h:XOk X) (hl:X.L.length≤1000000) (a:AT) (body:List UInt8):XOk (actX X a body):=by
 unfold actX
 split
 ·exact h.dial hl _ _
 ·split
  ·exact h.ans _ _
  ·split
   ·exact h.hang _
   ·split
    ·exact h.recv _ _ _
    ·split
     ·exact h.tick
     ·split
      ·exact ⟨h.c1,h.c9,h.wl,h.el,h.own,h.dis,h.rt,h.ln⟩
      ·exact h
theorem act_own (h:XOwn X) (hok:XOk X) (a:AT) (body:List UInt8):XOwn (actX X a body):=by
 unfold actX
 split
 ·exact h.dial hok _ _
 ·split
  ·exact h.ans _ _
  ·split
   ·exact h.hang _
   ·split
    ·exact h.recv hok _ _ _
    ·split
     ·exact h.tick
     ·split
      ·exact h
      ·exact h
theorem bind_len (X:XS) (i:Nat) (l:Ln) (now:Int):(X.bind i l now).L.length=X.L.length∧(X.bind i l now).out.length=X.out.length+1∧(X.bind i l now).ev.length=X.ev.length+1:=by simp [XS.bind,XS.offer,XS.evt,XS.put]
theorem hear_len (X:XS) (m:Nt) (now:Int):(X.hear m now).L.length=X.L.length∧(X.hear m now).out.length≤X.out.length+X.L.length∧(X.hear m now).ev.length≤X.ev.length+X.L.length+1:=by
 unfold XS.hear
 split
 ·have h:=claim_len X m now
  exact ⟨h.2.2.n,h.1,by omega⟩
 ·split
  ·exact ⟨rfl,by omega,by omega⟩
  ·split
   ·exact ⟨rfl,by omega,by omega⟩
   ·split
    ·exact ⟨rfl,by omega,by omega⟩
    ·split
     ·unfold XS.ack
      split
      ·exact ⟨by simp [XS.put],by simp [XS.put],by simp [XS.put] <;> omega⟩
      ·exact ⟨rfl,by omega,by omega⟩
     ·split
      ·exact ⟨by simp [XS.put],by simp [XS.put],by simp [XS.put] <;> omega⟩
      ·split
       ·exact ⟨by simp [XS.put,XS.evt],by simp [XS.put,XS.evt],by simp [XS.put,XS.evt] <;> omega⟩
       ·exact ⟨rfl,by omega,by omega⟩
theorem act_len (X:XS) (a:AT) (body:List UInt8):(actX X a body).L.length≤X.L.length+1∧(actX X a body).out.length≤X.out.length+X.L.length+2∧(actX X a body).ev.length≤X.ev.length+X.L.length+2:=by
 unfold actX
 split
 ·unfold XS.dial
  split
  ·have h:=bind_len ((X.add (newL ((X.L.length:Int)+1) ((X.dis[a.node.toNat]?).getD 0) a.now (a.src.map SA.pt))).evt ⟨2,a.now,(newL ((X.L.length:Int)+1) ((X.dis[a.node.toNat]?).getD 0) a.now (a.src.map SA.pt)).d,(X.L.length:Int)+1,0,0⟩) X.L.length (newL ((X.L.length:Int)+1) ((X.dis[a.node.toNat]?).getD 0) a.now (a.src.map SA.pt)) a.now
   simp only [XS.evt,XS.add,List.length_append,List.length_singleton] at h
   exact ⟨by have:=h.1;simp only [XS.evt,XS.add] at this ⊢;omega,by have:=h.2.1;simp only [XS.evt,XS.add] at this ⊢;omega,by have:=h.2.2;simp only [XS.evt,XS.add] at this ⊢;omega⟩
  ·exact ⟨by omega,by omega,by omega⟩
 ·split
  ·unfold XS.ansS
   split
   ·split
    ·exact ⟨by omega,by omega,by omega⟩
    ·split
     ·exact ⟨by simp [XS.put,XS.evt,XS.offer],by simp [XS.put,XS.evt,XS.offer] <;> omega,by simp [XS.put,XS.evt,XS.offer] <;> omega⟩
     ·exact ⟨by omega,by omega,by omega⟩
   ·exact ⟨by omega,by omega,by omega⟩
  ·split
   ·unfold XS.hangS
    split
    ·split
     ·exact ⟨by omega,by omega,by omega⟩
     ·split
      ·exact ⟨by simp [XS.put,XS.evt,XS.offer],by simp [XS.put,XS.evt,XS.offer] <;> omega,by simp [XS.put,XS.evt,XS.offer] <;> omega⟩
      ·exact ⟨by omega,by omega,by omega⟩
    ·exact ⟨by omega,by omega,by omega⟩
   ·split
    ·unfold XS.recv
     split
     ·split
      ·have h:=hear_len X (rawM body) a.now
       exact ⟨by omega,by omega,by omega⟩
      ·exact ⟨by omega,by omega,by omega⟩
     ·exact ⟨by omega,by omega,by omega⟩
    ·split
     ·unfold XS.tick
      split
      ·have h:=tickN_len X a.now X.L.length
       have h2:=(tickN_eq X a.now X.L.length).n
       exact ⟨by omega,by omega,by rw [h.2];omega⟩
      ·exact ⟨by omega,by omega,by omega⟩
     ·split
      ·exact ⟨Nat.le_succ _,by simp,by simp⟩
      ·exact ⟨by omega,by omega,by omega⟩
end
def DoP (w:World) (T:Tags) (x:Nat) (X:XS) (c:CF) (b:Nat) (a:AT) (e:Ending) (w':World):Prop:=∃ (T':Tags) (p':PS) (q':QS) (S:Nat→Prop),e=.returned (.tuple #[.agg q'.cells.toArray,.bool true])∧JJ w' T' p' q' c (b+1)∧p'.x=x∧q'.pt=actX X a (bodyA a)∧Mv w T w' T' S∧(∀ i,S i→T.on i)
theorem JJ.next {w w':World} {T T':Tags} {p p':PS} {q q':QS} {c:CF} {b:Nat} (J:JJ w T p q c b) (hb:b≤60) (a:AT) (body:List UInt8) (hp:PX w' T' p') (hr:RX w' (fun i=>T' i≠none) q') (he:p'.pt=actX q.pt a body) (hq:q'.pt=actX q.pt a body) (hc:q'.c=c) (hd:Sl w' (fun i=>T' i≠none) 1 c.D c.dis.length (icells c.dis)):JJ w' T' p' q' c (b+1):=by
 have hl:q.pt.L.length=q.R.length:=by simp [QS.pt]
 have hl':q'.pt.L.length=q'.R.length:=by simp [QS.pt]
 have ho:q.pt.out.length=q.out.length:=by simp [QS.pt]
 have ho':q'.pt.out.length=q'.out.length:=by simp [QS.pt]
 have hv:q.pt.ev.length=q.ev.length:=rfl
 have hv':q'.pt.ev.length=q'.ev.length:=rfl
 have h1:=act_len q.pt a body
 rw [←hq] at h1
 have hn:=J.n
 refine ⟨hp,hr,he.trans hq.symm,by rw [hq];exact act_ok J.ok (by omega) a body,by rw [hq];exact act_own J.own J.ok a body,hc,hd,J.dl,by omega,by omega,by omega⟩
end Go.Proofs.YtbjddfiledoaoaaGreat

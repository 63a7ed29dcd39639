import Derived.Test.YtbjddfiledoaoaaGreatZEp
import Derived.Test.YtbjddfiledoaoaaGreatZP
namespace Go.Proofs.YtbjddfiledoaoaaGreat
open Go.RowKit
theorem act_cen (X:XS) (a:AT) (body:List UInt8):(actX X a body).cen=X.cen∧(actX X a body).rt=X.rt:=by
 unfold actX
 split
 ·unfold XS.dial;split <;> exact ⟨rfl,rfl⟩
 ·split
  ·unfold XS.ansS
   split
   ·split
    ·exact ⟨rfl,rfl⟩
    ·split <;> exact ⟨rfl,rfl⟩
   ·exact ⟨rfl,rfl⟩
  ·split
   ·unfold XS.hangS
    split
    ·split
     ·exact ⟨rfl,rfl⟩
     ·split <;> exact ⟨rfl,rfl⟩
    ·exact ⟨rfl,rfl⟩
   ·split
    ·unfold XS.recv
     split
     ·split
      ·unfold XS.hear
       split
       ·have:=(claim_len X (rawM body) a.now).2.2
        exact ⟨this.cen,this.rt⟩
       ·split
        ·exact ⟨rfl,rfl⟩
        ·split
         ·exact ⟨rfl,rfl⟩
         ·split
          ·exact ⟨rfl,rfl⟩
          ·split
           ·unfold XS.ack;split <;> exact ⟨rfl,rfl⟩
           ·split
            ·exact ⟨rfl,rfl⟩
            ·split <;> exact ⟨rfl,rfl⟩
      ·exact ⟨rfl,rfl⟩
     ·exact ⟨rfl,rfl⟩
    ·split
     ·unfold XS.tick
      split
      ·have:=tickN_eq X a.now X.L.length
       exact ⟨this.cen,this.rt⟩
      ·exact ⟨rfl,rfl⟩
     ·split <;> exact ⟨rfl,rfl⟩
theorem run_evo (N:Int):∀ (l:List AT) (X:XS),XOk X→X.L.length+l.length≤1000→(∀ a∈l,vN a.now 0=true→a.now≤N)→LEvo N X.cen X.L (runX X l).L∧(runX X l).cen=X.cen∧(runX X l).rt=X.rt
 | [],X,_,_,_=>⟨LEvo.refl _ _ _,rfl,rfl⟩
 | a :: l,X,h,hn,hN=>by
   have h1:=(act_len X a (bodyA a)).1
   have h2:=run_evo N l (actX X a (bodyA a)) (act_ok h (by omega) a _) (by rw [List.length_cons] at hn;omega) (fun b hb=>hN b (List.mem_cons_of_mem _ hb))
   have h3:=LEvo.act (N:=N) h a (bodyA a) (hN a (List.mem_cons_self ..))
   obtain ⟨e1,e2⟩:=act_cen X a (bodyA a)
   rw [e1,e2] at h2
   exact ⟨LEvo.trans h3 h2.1,h2.2⟩
def maxS (N:Int) (a:AT):Int:=if N<a.now∧a.now≤1099511627776 then a.now else N
def maxN (l:List AT):Int:=l.foldl maxS 0
theorem maxN_step {l:List AT} {j:Nat} {a:AT} (h:l[j]? = some a):maxN (l.take (j+1))=maxS (maxN (l.take j)) a:=by
 unfold maxN
 rw [take_snoc h,List.foldl_append];rfl
theorem maxF_le:∀ (l:List AT) (N:Int),N≤l.foldl maxS N∧(∀ a∈l,vN a.now 0=true→a.now≤l.foldl maxS N)∧(N≤1099511627776→l.foldl maxS N≤1099511627776)
 | [],N=>⟨Int.le_refl _,fun a ha=>by (cases ha),id⟩
 | b :: l,N=>by
   obtain ⟨h1,h2,h3⟩:=maxF_le l (maxS N b)
   have h4:N≤maxS N b∧(vN b.now 0=true→b.now≤maxS N b)∧(N≤1099511627776→maxS N b≤1099511627776):=by
    unfold maxS
    split
    ·exact ⟨by omega,fun _=>Int.le_refl _,fun _=>by omega⟩
    ·refine ⟨Int.le_refl _,fun hv=>?_,id⟩
     have:=vN_true hv
     omega
   rw [List.foldl_cons]
   refine ⟨by omega,fun a ha hv=>?_,fun h=>h3 (h4.2.2 h)⟩
   rcases List.mem_cons.1 ha with rfl | ha
   ·have:=h4.2.1 hv;omega
   ·exact h2 a ha hv
theorem maxN_ok (l:List AT):0≤maxN l∧maxN l≤1099511627776∧∀ a∈l,vN a.now 0=true→a.now≤maxN l:=by
 obtain ⟨h1,h2,h3⟩:=maxF_le l 0
 exact ⟨h1,h3 (by decide),h2⟩
theorem run_lines {c:CF} {l:List AT} (hv:vnum c=0) (hl:l.length≤40) {i:Nat} {m:Ln} (h:(runX (newX c) l).L[i]? = some m):SrcT m.src∧m.last≤maxN l∧(0≤m.s.cen∧m.s.cen<c.cen)∧1≤m.s.ep:=by
 obtain ⟨h0,h1,h2⟩:=maxN_ok l
 have h3:=(run_evo (maxN l) l (newX c) (newX_ok hv) (by show 0+_≤_;omega) h2).1.new i m (Nat.zero_le _) h
 refine ⟨h3.1,?_,h3.2.2⟩
 have:=h3.2.1
 omega
theorem run_rt {c:CF} {l:List AT} (hv:vnum c=0) (hl:l.length≤40):(runX (newX c) l).cen=c.cen∧(runX (newX c) l).rt=c.h5 :=
 (run_evo (maxN l) l (newX c) (newX_ok hv) (by show 0+_≤_;omega) (maxN_ok l).2.2).2
end Go.Proofs.YtbjddfiledoaoaaGreat

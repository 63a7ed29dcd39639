import Derived.Test.YtbjddfiledoaoaaGreatZD
import Derived.Test.YtbjddfiledoaoaaGreatZA
import Derived.Test.YtbjddfiledoaoaaGreatXG
import Derived.Test.YtbjddfiledoaoaaGreatYO
namespace Go.Proofs.YtbjddfiledoaoaaGreat
open Go.RowKit
def q0:QS:=⟨⟨0,none,0,[],none,0,[],none,0,[],none,0,[],0,0,0,0,0,0,0,0,0,0⟩,none,0,[],none,0,[],none,0,[],none,0,[],none,0,[]⟩
theorem q0_cells:zero20=q0.cells:=rfl
def PlU (w:World) (c:CF) (l:List AT) (e:Ending) (w':World):Prop:=∃ (P:Option Addr) (q:QS),e=.returned (.tuple #[.pointer P,.agg q.cells.toArray,.bool true])∧Same w w' ∧
 (P=none∨∃ (T:Tags) (p:PS),P=some ⟨p.x,0,none⟩∧JJ w' T p q c l.length∧q.pt=runX (newX c) l∧(∀ i,T i≠none→w.heap.size≤i)∧l.length≤40∧vnum c=0∧∀ a∈l,fewA a=true)
theorem playedU (w:World) (c:CF) (hmm:CM w c) (hff:Few c) (B:Option Addr) (cb:Nat) (l:List AT) (hl:ATs w (fun _=>False) B l) (hn:l.length≤maxLen):Calls Tryz.prog 9 #[.agg c.cells.toArray,.slice B l.length cb] w (PlU w c l) :=
 (playedJ w c hmm hff B cb l hl hn).mono (fun e w' hh=>by
   rcases hh with ⟨he,hk⟩ | ⟨T,p,q,he,hj,hq,hnew,hk,h4,hv,hfw⟩
   ·exact ⟨none,q0,by rw [he,q0_cells],hk,.inl rfl⟩
   ·exact ⟨_,q,he,hk,.inr ⟨T,p,rfl,hj,hq,hnew,h4,hv,hfw⟩⟩)
theorem opens_at {X:XS} {i:Nat} {k:Int} (h:X.opens[i]? = some k):∃ (n:Nat) (l:Ln),k=(n:Int)+1∧n<X.L.length∧X.L[n]? = some l∧l.s.st≠5:=by
 unfold XS.opens openN at h
 have h1:=List.mem_of_getElem? h
 obtain ⟨n,hn,rfl⟩:=List.mem_map.1 h1
 obtain ⟨hr,hb⟩:=List.mem_filter.1 hn
 have hr:=List.mem_range.1 hr
 unfold opB at hb
 cases hl:X.L[n]? with
 | none=>rw [hl] at hb;cases hb
 | some l=>rw [hl] at hb;exact ⟨n,l,rfl,hr,hl,by simpa using hb⟩
theorem idx_at {n k:Nat} (h:k<n):idx n ((k:Int)+1)=some k:=by
 unfold idx
 rw [if_pos (by omega)]
 congr 1
 omega
theorem findI_at {n k:Nat} (h:k<n):findI n ((k:Int)+1)=(k:Int):=by
 unfold findI
 rw [idx_at h]
theorem ps_line {p:PS} {X:XS} (h:p.pt=X) {k:Nat} {l:Ln} (hl:X.L[k]? = some l):∃ x,p.R[k]? = some x∧x.pt=l:=by
 rw [←h] at hl
 have hl:(p.R.map RA.pt)[k]? = some l:=hl
 rw [List.getElem?_map] at hl
 cases hx:p.R[k]? with
 | none=>rw [hx] at hl;cases hl
 | some x=>rw [hx] at hl;injection hl with hl;exact ⟨x,rfl,hl⟩
theorem ps_hold {p:PS} {X:XS} (h:p.pt=X) {d:Nat} {a b:Int} (h1:X.who[d]? = some a) (h2:X.ep[d]? = some b):p.hold[d]? = some (a,b):=by
 rw [←h] at h1 h2
 have h1:(p.hold.map (·.1))[d]? = some a:=h1
 have h2:(p.hold.map (·.2))[d]? = some b:=h2
 rw [List.getElem?_map] at h1 h2
 cases hx:p.hold[d]? with
 | none=>rw [hx] at h1;cases h1
 | some x =>
   rw [hx] at h1 h2
   injection h1 with h1
   injection h2 with h2
   rw [←h1,←h2]
end Go.Proofs.YtbjddfiledoaoaaGreat

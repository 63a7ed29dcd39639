import Derived.Test.YtbjddfiledoaoaaGreatZRa
import Derived.Test.YtbjddfiledoaoaaGreatZQ
import Derived.Test.YtbjddfiledoaoaaGreatZM
namespace Go.Proofs.YtbjddfiledoaoaaGreat
open Go.RowKit
structure Offd (X:XS) (p:Pk) (i:Nat) (l:Ln):Prop where
 at_:X.L[i]? = some l
 op:l.s.st≠5
 call:l.s.call=(i:Int)+1
 f:p.f=X.cen
 t:p.t=l.s.cen
 err:errM p.b=0
 raw:rawM p.b=offM l
 len:p.b.length≤10000
theorem offd_of {X Y:XS} {N:Int} {p:Pk} (h:OTI X N Y) (hok:XOk X) (hs:∀ (i:Nat) (l:Ln),X.L[i]? = some l→SrcT l.src∧0≤l.s.cen∧l.s.cen<X.cen) (hp:p∈Y.out):∃ i l,Offd X p i l:=by
 obtain ⟨i,l,hl,hst,rfl⟩:=h.out p hp
 obtain ⟨h1,h2,h3⟩:=hok.ln i l hl
 have h9:=hok.c9
 obtain ⟨s1,s2,s3⟩:=hs i l hl
 have hv:=vM_off h1.vl ⟨h2.1,by omega⟩ s1 ⟨s2,by omega⟩
 obtain ⟨e1,e2⟩:=dec_enc hv
 refine ⟨i,l,hl,hst,h3,rfl,rfl,e2,e1,?_⟩
 have h5:=encM_len hv
 show (encM (offM l)).length≤_
 unfold encM
 rw [if_pos hv]
 simp only [List.length_append]
 omega
theorem OTI.opens {X Y:XS} {N:Int} (h:OTI X N Y):Y.opens=X.opens:=by
 unfold XS.opens
 rw [h.n]
 unfold openN
 congr 1
 refine List.filter_congr (fun k hk=>?_)
 obtain ⟨l,hl⟩:=get_some (List.mem_range.1 hk)
 obtain ⟨t,ht,_⟩:=h.ln k l hl
 unfold opB
 rw [hl,ht]
theorem opens_mem {X:XS} {k:Int}:k∈X.opens↔∃ (n:Nat) (l:Ln),k=(n:Int)+1∧X.L[n]? = some l∧l.s.st≠5:=by
 constructor
 ·intro h
  obtain ⟨i,hi⟩:=List.getElem?_of_mem h
  obtain ⟨n,l,h1,_,h2,h3⟩:=opens_at hi
  exact ⟨n,l,h1,h2,h3⟩
 ·rintro ⟨n,l,rfl,h1,h2⟩
  unfold XS.opens openN
  refine List.mem_map.2 ⟨n,List.mem_filter.2 ⟨List.mem_range.2 (List.getElem?_eq_some_iff.1 h1).1,?_⟩,rfl⟩
  unfold opB
  rw [h1];simpa using h2
theorem opens_nodup (X:XS):X.opens.Nodup:=by
 unfold XS.opens openN
 exact List.Pairwise.map _ (fun a b h e=>h (by omega)) (List.Pairwise.filter _ List.nodup_range)
def Tells (Y:XS) (j:Nat) (K:List Int):Prop:=∀ k,k∈K↔∃ p∈Y.out.take j,(rawM p.b).call=k
theorem Tells.next {Y:XS} {j:Nat} {K:List Int} {p:Pk} (h:Tells Y j K) (hp:Y.out[j]? = some p):Tells Y (j+1) (addK K (rawM p.b).call):=fun k=>by
 rw [addK_mem,h k,take_snoc hp]
 constructor
 ·rintro (rfl | ⟨q,hq,e⟩)
  ·exact ⟨p,List.mem_append_right _ (List.mem_singleton.2 rfl),rfl⟩
  ·exact ⟨q,List.mem_append_left _ hq,e⟩
 ·rintro ⟨q,hq,e⟩
  rcases List.mem_append.1 hq with hq | hq
  ·exact .inr ⟨q,hq,e⟩
  ·rw [List.mem_singleton] at hq
   subst hq
   exact .inl e.symm
theorem Tells.all {X Y:XS} {N:Int} {K:List Int} (h:Tells Y Y.out.length K) (hT:OTI X N Y) (hok:XOk X) (hs:∀ (i:Nat) (l:Ln),X.L[i]? = some l→SrcT l.src∧0≤l.s.cen∧l.s.cen<X.cen)
 (ho:∀ (i:Nat) (l:Ln),X.L[i]? = some l→l.s.st≠5→offP X l∈Y.out):∀ k,k∈K↔k∈X.opens:=fun k=>by
 rw [h k,List.take_length,opens_mem]
 constructor
 ·rintro ⟨p,hp,e⟩
  obtain ⟨i,l,o⟩:=offd_of hT hok hs hp
  exact ⟨i,l,by rw [←e,o.raw,←o.call];rfl,o.at_,o.op⟩
 ·rintro ⟨i,l,rfl,hl,hst⟩
  have hp:=ho i l hl hst
  obtain ⟨h1,h2,h3⟩:=hok.ln i l hl
  have h9:=hok.c9
  obtain ⟨s1,s2,s3⟩:=hs i l hl
  obtain ⟨e1,e2⟩:=dec_enc (vM_off h1.vl ⟨h2.1,by omega⟩ s1 ⟨s2,by omega⟩)
  exact ⟨_,hp,by show (rawM (encM (offM l))).call=_;rw [e1];exact h3⟩
end Go.Proofs.YtbjddfiledoaoaaGreat

import Derived.Test.YtbjddfiledoaoaaGreatXA
import Derived.Test.YtbjddfiledoaoaaGreatMore
import Derived.Deep.CutRange
namespace Go.Proofs.YtbjddfiledoaoaaGreat
open Go.RowKit
structure Src where
 k:Int
 nd:List Int
structure Ln where
 s:CL
 d:Int
 src:List Src
 last:Int
structure Pk where
 f:Int
 t:Int
 b:List UInt8
structure Ev where
 k:Int
 t:Int
 w:Int
 c:Int
 e:Int
 n:Int
structure XS where
 cen:Int
 dis:List Int
 rt:Int
 who:List Int
 ep:List Int
 L:List Ln
 out:List Pk
 ev:List Ev
def encS (l:List Src):List UInt8:=l.flatMap fun s=>encI s.k++encL s.nd
def bodyL (l:Ln):List UInt8:=encD (encCL l.s)++encI l.d++encI l.src.length++encS l.src
def offM (l:Ln):Nt:=⟨4,l.s.call,l.d,l.s.cen,l.s.ep,l.s.ans.length,bodyL l⟩
def XS.evt (X:XS) (e:Ev):XS:={ X with ev:=X.ev++[e] }
def XS.put (X:XS) (i:Nat) (l:Ln):XS:={ X with L:=X.L.set i l }
def XS.offer (X:XS) (i:Nat) (l:Ln) (now:Int):XS:={ X with L:=X.L.set i { l with last:=max l.last now },out:=X.out++[⟨X.cen,l.s.cen,encM (offM l)⟩] }
def XS.hold (X:XS) (d:Int):Int × Int:=((X.who[d.toNat]?).getD 0,(X.ep[d.toNat]?).getD 0)
def XS.bind (X:XS) (i:Nat) (l:Ln) (now:Int):XS :=
 let l':Ln:={ l with s:=assignS l.s (X.hold l.d).1 (X.hold l.d).2 now }
 ((X.put i l').evt ⟨3,now,(X.hold l.d).1,l.s.call,(X.hold l.d).2,0⟩).offer i l' now
inductive Tag where
 | hdr | hold | lines | out | ev
 | rc (k:Nat)
 | line (k:Nat)
 | ans (k:Nat)
 | rsv
def Tags:=Nat→Option Tag
def Tags.on (T:Tags) (i:Nat):Prop:=T i≠none∧T i≠some .rsv
theorem Tags.on_of {T:Tags} {i:Nat} {t:Tag} (e:T i=some t) (h:t≠.rsv):T.on i:=by
 refine And.intro ?_ ?_
 ·rw [e];exact fun h=>by cases h
 ·rw [e];exact fun h2=>h (by injection h2)
structure SA where
 k:Int
 A:Option Addr
 c:Nat
 nd:List Int
def SA.cells (x:SA):List Value:=[.int .i64 x.k,.slice x.A x.nd.length x.c]
def SA.pt (x:SA):Src:=⟨x.k,x.nd⟩
structure SAs (w:World) (Av:Nat→Prop) (B:Option Addr) (l:List SA):Prop where
 sl:Sl w Av 2 B l.length (l.flatMap SA.cells)
 el:∀ x∈l,Sl w Av 1 x.A x.nd.length (icells x.nd)
theorem SAs.keep {S Av:Nat→Prop} {w w':World} {B:Option Addr} {l:List SA} (h:SAs w Av B l) (hk:Keep S w w') (hS:∀ i,i<w.heap.size→S i→Av i):SAs w' Av B l :=
 ⟨h.sl.keep hk hS,fun x hx=>(h.el x hx).keep hk hS⟩
theorem SAs.same {Av:Nat→Prop} {w w':World} {B:Option Addr} {l:List SA} (h:SAs w Av B l) (hk:Same w w'):SAs w' Av B l:=h.keep hk (fun _ _ f=>f.elim)
theorem SAs.wide {Av Av':Nat→Prop} {w:World} {B:Option Addr} {l:List SA} (h:SAs w Av B l) (hS:∀ i,i<w.heap.size→Av' i→Av i):SAs w Av' B l :=
 ⟨h.sl.wide hS,fun x hx=>(h.el x hx).wide hS⟩
structure PkA where
 f:Int
 t:Int
 A:Option Addr
 c:Nat
 b:List UInt8
def PkA.cells (x:PkA):List Value:=[.int .i64 x.f,.int .i64 x.t,.slice x.A x.b.length x.c]
def PkA.pt (x:PkA):Pk:=⟨x.f,x.t,x.b⟩
def ev22:List Value:=[.int .i64 0,.int .i64 0,.slice none 0 0,.int .i64 0,.int .i64 0,.int .i64 0,.int .i64 0,.int .i64 0,.int .i64 0,.int .i64 0,.int .i64 0,.int .i64 0,.int .i64 0,.int .i64 0,.int .i64 0,.int .i64 0,.int .i64 0,.int .i64 0,.int .i64 0,.slice none 0 0,.slice none 0 0,.slice none 0 0]
def Ev.cells (x:Ev):List Value:=[.int .i64 x.k,.int .i64 x.t,.int .i64 x.w,.int .i64 x.c,.int .i64 x.e,.int .i64 x.n]++ev22
def hcells (x:Int × Int):List Value:=[.int .i64 x.1,.int .i64 x.2]
structure RA where
 rb:Nat
 lb:Nat
 r:Option Nat
 A:Option Addr
 c:Nat
 B:Option Addr
 bc:Nat
 src:List SA
 s:CL
 d:Int
 last:Int
def RA.pt (x:RA):Ln:=⟨x.s,x.d,x.src.map SA.pt,x.last⟩
def RA.ptr (x:RA):Value:=.pointer (some ⟨x.rb,0,none⟩)
def RA.cells (x:RA):List Value:=[.pointer (some ⟨x.lb,0,none⟩),.int .i64 x.d,.slice x.B x.src.length x.bc,.int .i64 x.last]
structure RecAt (w:World) (T:Tags) (k:Nat) (x:RA):Prop where
 blk:Blk w x.rb 111 x.cells.toArray
 tb:T x.rb=some (.rc k)
 line:LineAt w x.lb x.r x.A x.c x.s
 tl:T x.lb=some (.line k)
 tr:∀ g,x.r=some g→T g=some (.ans k)
 src:SAs w (fun i=>T i≠none) x.B x.src
structure RowAt (w:World) (T:Tags) (t:Tag) (e:TypeId) (size:Nat) (v:Value) (n:Nat) (xs:List Value):Prop where
 own:Own w 0 e size v n xs
 tag:∀ g,v.ownBlock=some g→T g=some t
structure PS where
 x:Nat
 cen:Int
 D:Option Addr
 dc:Nat
 dis:List Int
 rt:Int
 hold:List (Int × Int)
 hv:Value
 R:List RA
 lv:Value
 out:List PkA
 ov:Value
 ev:List Ev
 evv:Value
def PS.pt (p:PS):XS:=⟨p.cen,p.dis,p.rt,p.hold.map (·.1),p.hold.map (·.2),p.R.map RA.pt,p.out.map PkA.pt,p.ev⟩
def PS.cells (p:PS):List Value:=[.int .i64 p.cen,.slice p.D p.dis.length p.dc,.int .i64 (2 * p.rt),p.hv,p.lv,p.ov,p.evv]
structure PX (w:World) (T:Tags) (p:PS):Prop where
 hdr:Blk w p.x 94 p.cells.toArray
 tx:T p.x=some .hdr
 dis:Sl w (fun i=>T i≠none) 1 p.D p.dis.length (icells p.dis)
 hold:RowAt w T .hold 134 2 p.hv p.hold.length (p.hold.flatMap hcells)
 lines:RowAt w T .lines 107 1 p.lv p.R.length (p.R.map RA.ptr)
 recs:∀ k x,p.R[k]? = some x→RecAt w T k x
 out:RowAt w T .out 56 3 p.ov p.out.length (p.out.flatMap PkA.cells)
 body:∀ y∈p.out,Sl w (fun i=>T i≠none) 1 y.A y.b.length (bcells y.b)
 ev:RowAt w T .ev 104 28 p.evv p.ev.length (p.ev.flatMap Ev.cells)
 lt:∀ i,T i≠none→i<w.heap.size
structure Mv (w:World) (T:Tags) (w':World) (T':Tags) (S:Nat→Prop):Prop where
 keep:Keep S w w'
 old:∀ i,i<w.heap.size→T' i=T i
 lt:∀ i,T' i≠none→i<w'.heap.size
section
variable {w w' w2:World} {T T' T2:Tags} {S S2:Nat→Prop} {t:Tag} {e:TypeId} {size n k:Nat} {v:Value} {xs:List Value} {x:RA} {p:PS}
theorem Mv.same (hk:Same w w') (h:∀ i,T i≠none→i<w.heap.size):Mv w T w' T (fun _=>False):=⟨hk,fun _ _=>rfl,fun i hi=>Nat.lt_of_lt_of_le (h i hi) hk.size⟩
theorem Mv.wide (m:Mv w T w' T' S) (hS:∀ i,S i→S2 i):Mv w T w' T' S2:=⟨m.keep.wide (fun i _ h=>hS i h),m.old,m.lt⟩
theorem Mv.trans (m:Mv w T w' T' S) (m2:Mv w' T' w2 T2 S2) (hS:∀ i,i<w.heap.size→S2 i→S i):Mv w T w2 T2 S :=
 ⟨m.keep.trans m2.keep hS,fun i hi=>(m2.old i (Nat.lt_of_lt_of_le hi m.keep.size)).trans (m.old i hi),m2.lt⟩
theorem Mv.new (m:Mv w T w' T' S) (i:Nat) (hi:T' i≠none):T i≠none∨w.heap.size≤i:=by
 rcases Nat.lt_or_ge i w.heap.size with h | h
 ·exact .inl (by rw [←m.old i h];exact hi)
 ·exact .inr h
theorem RowAt.lt (h:RowAt w T t e size v n xs):∀ g,v.ownBlock=some g→g<w.heap.size:=h.own.lt
theorem RowAt.move (h:RowAt w T t e size v n xs) (m:Mv w T w' T' S) (hS:∀ i,S i→T i≠some t):RowAt w' T' t e size v n xs :=
 ⟨h.own.keepB m.keep (fun g hg hs=>hS g hs (h.tag g hg)),fun g hg=>(m.old g (h.own.lt g hg)).trans (h.tag g hg)⟩
theorem Mv.slice {A:Option Addr} {cs:List Value} (m:Mv w T w' T' S) (hS:∀ i,S i→T i≠none) (h:Sl w (fun i=>T i≠none) size A n cs):Sl w' (fun i=>T' i≠none) size A n cs :=
 (h.wide (Av':=fun i=>T' i≠none) (fun i hi ht=>by rw [←m.old i hi];exact ht)).keep m.keep (fun i hi hs=>by rw [m.old i hi];exact hS i hs)
theorem Mv.srcs {B:Option Addr} {l:List SA} (m:Mv w T w' T' S) (hS:∀ i,S i→T i≠none) (h:SAs w (fun i=>T i≠none) B l):SAs w' (fun i=>T' i≠none) B l :=
 ⟨m.slice hS h.sl,fun x hx=>m.slice hS (h.el x hx)⟩
theorem RecAt.move (h:RecAt w T k x) (m:Mv w T w' T' S) (hN:∀ i,S i→T i≠none) (hS:∀ i,S i→T i≠some (.rc k)∧T i≠some (.line k)∧T i≠some (.ans k)):RecAt w' T' k x :=
 ⟨h.blk.keep m.keep (fun hs=>(hS _ hs).1 h.tb),(m.old _ h.blk.lt).trans h.tb,h.line.keep m.keep (fun hs=>(hS _ hs).2.1 h.tl) (fun g hg hs=>(hS _ hs).2.2 (h.tr g hg)),(m.old _ h.line.top.lt).trans h.tl,
  fun g hg=>(m.old _ (h.line.lt g hg)).trans (h.tr g hg),m.srcs hN h.src⟩
theorem PX.same (h:PX w T p) (hk:Same w w'):PX w' T p:=by
 have m:=Mv.same hk h.lt
 exact ⟨h.hdr.keep hk (fun f=>f),h.tx,m.slice (fun _ f=>f.elim) h.dis,h.hold.move m (fun _ f=>f.elim),h.lines.move m (fun _ f=>f.elim),fun k x hx=>(h.recs k x hx).move m (fun _ f=>f.elim) (fun _ f=>f.elim),h.out.move m (fun _ f=>f.elim),fun y hy=>m.slice (fun _ f=>f.elim) (h.body y hy),h.ev.move m (fun _ f=>f.elim),m.lt⟩
theorem PX.line (h:PX w T p) {k:Nat} {x':RA} (m:Mv w T w' T' S) (hS:∀ i,S i→T i=some (.rc k)∨T i=some (.line k)∨T i=some (.ans k)) (hx:RecAt w' T' k x') (hk:k<p.R.length) (hrb:∀ x,p.R[k]? = some x→x'.rb=x.rb) :
 PX w' T' { p with R:=p.R.set k x' }:=by
 have hN:∀ i,S i→T i≠none:=fun i hi=>by rcases hS i hi with e | e | e <;> rw [e] <;> exact fun h=>by cases h
 have hO:∀ (t:Tag),t=.hdr∨t=.hold∨t=.lines∨t=.out∨t=.ev→∀ i,S i→T i≠some t:=fun t ht i hi=>by
  rcases hS i hi with e | e | e <;> rw [e] <;> rcases ht with rfl | rfl | rfl | rfl | rfl <;> exact fun h=>by cases h
 have hmap:(p.R.set k x').map RA.ptr=p.R.map RA.ptr:=by
  obtain ⟨x,hxx⟩:=get_some hk
  rw [List.map_set,RA.ptr,hrb x hxx]
  apply List.ext_getElem?
  intro i
  rw [List.getElem?_set]
  by_cases e:k=i
  ·subst e
   rw [if_pos rfl,if_pos (by simpa using hk),List.getElem?_map,hxx];rfl
  ·rw [if_neg e]
 refine ⟨h.hdr.keep m.keep (fun hs=>hO _ (.inl rfl) _ hs h.tx),(m.old _ h.hdr.lt).trans h.tx,m.slice hN h.dis,h.hold.move m (hO _ (.inr (.inl rfl))),?_,?_,h.out.move m (hO _ (.inr (.inr (.inr (.inl rfl))))),fun y hy=>m.slice hN (h.body y hy),h.ev.move m (hO _ (.inr (.inr (.inr (.inr rfl))))),m.lt⟩
 ·have:=h.lines.move m (hO _ (.inr (.inr (.inl rfl))))
  simp only [List.length_set,hmap];exact this
 ·intro i y hy
  rw [List.getElem?_set] at hy
  by_cases e:k=i
  ·subst e
   rw [if_pos rfl,if_pos hk] at hy
   cases hy;exact hx
  ·rw [if_neg e] at hy
   refine (h.recs i y hy).move m hN (fun j hj=>?_)
   rcases hS j hj with e2 | e2 | e2 <;> rw [e2] <;> refine ⟨?_,?_,?_⟩ <;> intro h <;> first | (injection h with h;injection h with h;exact e h) | (injection h with h;injection h)
def Tags.set (T:Tags) (o:Option Nat) (t:Tag):Tags:=fun i=>if o=some i then some t else T i
theorem Tags.set_at (T:Tags) {o:Option Nat} {t:Tag} {g:Nat} (h:o=some g):T.set o t g=some t:=by unfold Tags.set;rw [if_pos h]
theorem Mv.grown {o o':Option Nat} (h:∀ i,T i≠none→i<w.heap.size) (hk:Keep (fun i=>o=some i) w w') (ho:∀ g,o=some g→T g=some t) (ho':o'=o∨∃ g,o'=some g∧w.heap.size≤g∧g<w'.heap.size):Mv w T w' (T.set o' t) (fun i=>o=some i):=by
 refine ⟨hk,fun i hi=>?_,fun i hi=>?_⟩
 ·unfold Tags.set
  by_cases e:o'=some i
  ·rw [if_pos e]
   rcases ho' with q | ⟨g,q,hg,_⟩
   ·exact (ho i (q ▸ e)).symm
   ·rw [q] at e;injection e with e;omega
  ·rw [if_neg e]
 ·unfold Tags.set at hi
  by_cases e:o'=some i
  ·rcases ho' with q | ⟨g,q,_,hg⟩
   ·exact Nat.lt_of_lt_of_le (h i (by rw [ho i (q ▸ e)];exact fun h=>by cases h)) hk.size
   ·rw [q] at e;injection e with e;omega
  ·rw [if_neg e] at hi
   exact Nat.lt_of_lt_of_le (h i hi) hk.size
end
section
variable {w w' w7:World} {T T':Tags} {S:Nat→Prop} {t:Tag} {e:TypeId} {size n n' k:Nat} {v v':Value} {xs ys:List Value} {x:RA} {p:PS}
theorem PX.setHdr (h:PX w T p) (i:Nat) (u:Value):Mv w T (w.setCell ⟨p.x,i,none⟩ u) T (· = p.x):=⟨(Keep.refl _ _).put _ _,fun _ _=>rfl,fun j hj=>Nat.lt_of_lt_of_le (h.lt j hj) ((Keep.refl (· = p.x) w).put i u).size⟩
theorem grow_mv (h:PX w T p) (hr:RowAt w T t e size v n xs) (hg:w.grownBy w7 v.ownBlock) (ho:Own w7 0 e size v' n' ys) (hw:v'.ownBlock=v.ownBlock∨∃ g,v'.ownBlock=some g∧w.heap.size≤g) (i:Nat) (u:Value) :
 Mv w T (w7.setCell ⟨p.x,i,none⟩ u) (T.set v'.ownBlock t) (fun j=>v.ownBlock=some j∨j=p.x):=by
 have hk:Keep (fun j=>v.ownBlock=some j) w w7:=(Keep.refl _ _).grown hg (fun x e _=>e)
 have m1:Mv w T w7 (T.set v'.ownBlock t) (fun j=>v.ownBlock=some j):=Mv.grown h.lt hk hr.tag (by
  rcases hw with q | ⟨g,q,hq⟩
  ·exact .inl q
  ·exact .inr ⟨g,q,hq,ho.lt g q⟩)
 have hp:Keep (· = p.x) w7 (w7.setCell ⟨p.x,i,none⟩ u):=(Keep.refl _ _).put _ _
 exact ⟨(hk.wide (fun _ _ h=>.inl h)).trans hp (fun j _ hj=>.inr hj),m1.old,fun j hj=>Nat.lt_of_lt_of_le (m1.lt j hj) hp.size⟩
theorem grow_row (h:PX w T p) (hr:RowAt w T t e size v n xs) (_hg:w.grownBy w7 v.ownBlock) (ho:Own w7 0 e size v' n' ys) (hw:v'.ownBlock=v.ownBlock∨∃ g,v'.ownBlock=some g∧w.heap.size≤g) (ht:t≠.hdr) (i:Nat) (u:Value) :
 RowAt (w7.setCell ⟨p.x,i,none⟩ u) (T.set v'.ownBlock t) t e size v' n' ys:=by
 have hp:Keep (· = p.x) w7 (w7.setCell ⟨p.x,i,none⟩ u):=(Keep.refl _ _).put _ _
 refine ⟨ho.keepB hp (fun g hg2 e=>?_),fun g hg2=>Tags.set_at T hg2⟩
 have e2:g=p.x:=e
 subst e2
 rcases hw with q | ⟨g',q,hq⟩
 ·have:=hr.tag _ (q ▸ hg2)
  rw [h.tx] at this
  injection this with this
  exact ht this.symm
 ·have:=h.hdr.lt
  rw [q] at hg2;injection hg2 with hg2;omega
theorem grow_hdr (h:PX w T p) (hr:RowAt w T t e size v n xs) (hg:w.grownBy w7 v.ownBlock) (ht:t≠.hdr):Blk w7 p.x 94 p.cells.toArray:=by
 have hk:Keep (fun j=>v.ownBlock=some j) w w7:=(Keep.refl _ _).grown hg (fun x e _=>e)
 refine h.hdr.keep hk (fun e=>?_)
 have:=hr.tag _ e
 rw [h.tx] at this
 injection this with this
 exact ht this.symm
theorem grow_tags (h:PX w T p) (hr:RowAt w T t e size v n xs):∀ j,(v.ownBlock=some j∨j=p.x)→T j=some t∨T j=some .hdr:=fun j hj=>by
 rcases hj with hj | rfl
 ·exact .inl (hr.tag j hj)
 ·exact .inr h.tx
theorem tags_on (hT:∀ j,S j→T j=some t∨T j=some .hdr) (ht:t≠.rsv):∀ j,S j→T.on j:=fun j hj=>by
 rcases hT j hj with e | e
 ·exact Tags.on_of e ht
 ·exact Tags.on_of e (fun h=>by cases h)
theorem tags_ne (hT:∀ j,S j→T j=some t∨T j=some .hdr):∀ j,S j→T j≠none:=fun j hj=>by
 rcases hT j hj with e | e <;> rw [e] <;> exact fun h=>by cases h
theorem tags_no (hT:∀ j,S j→T j=some t∨T j=some .hdr) {t1:Tag} (h1:t≠t1) (h2:Tag.hdr≠t1):∀ j,S j→T j≠some t1:=fun j hj=>by
 rcases hT j hj with e | e <;> rw [e] <;> intro h <;> injection h with h
 ·exact h1 h
 ·exact h2 h
theorem recs_move (h:PX w T p) (m:Mv w T w' T' S) (hT:∀ j,S j→T j=some t∨T j=some .hdr) (ht:∀ k,t≠.rc k∧t≠.line k∧t≠.ans k):∀ k x,p.R[k]? = some x→RecAt w' T' k x:=fun k x hx =>
 (h.recs k x hx).move m (tags_ne hT) (fun j hj=>⟨tags_no hT (ht k).1 (fun h=>by cases h) j hj,tags_no hT (ht k).2.1 (fun h=>by cases h) j hj,tags_no hT (ht k).2.2 (fun h=>by cases h) j hj⟩)
theorem PX.grow_out (h:PX w T p) {y:PkA} (hg:w.grownBy w7 p.ov.ownBlock) (ho:Own w7 0 56 3 v' (p.out.length+1) ((p.out++[y]).flatMap PkA.cells)) (hw:v'.ownBlock=p.ov.ownBlock∨∃ g,v'.ownBlock=some g∧w.heap.size≤g) (hy:Sl w (fun i=>T i≠none) 1 y.A y.b.length (bcells y.b)) :
 PX (w7.setCell ⟨p.x,5,none⟩ v') (T.set v'.ownBlock .out) { p with out:=p.out++[y],ov:=v' }∧Mv w T (w7.setCell ⟨p.x,5,none⟩ v') (T.set v'.ownBlock .out) (fun j=>p.ov.ownBlock=some j∨j=p.x):=by
 have m:=grow_mv h h.out hg ho hw 5 v'
 have hT:=grow_tags h h.out
 have hh:=(grow_hdr h h.out hg (fun h=>by cases h)).put 5 v'
 refine ⟨⟨by simpa [PS.cells] using hh,(m.old _ h.hdr.lt).trans h.tx,m.slice (tags_ne hT) h.dis,?_,?_,fun k x hx=>recs_move h m hT (fun k=>⟨(fun h=>by cases h),(fun h=>by cases h),(fun h=>by cases h)⟩) k x hx,?_,?_,?_,m.lt⟩,m⟩
 ·exact h.hold.move m (tags_no hT (fun h=>by cases h) (fun h=>by cases h))
 ·exact h.lines.move m (tags_no hT (fun h=>by cases h) (fun h=>by cases h))
 ·have:=grow_row h h.out hg ho hw (fun h=>by cases h) 5 v'
  simpa using this
 ·intro z hz
  rcases List.mem_append.1 hz with hz | hz
  ·exact m.slice (tags_ne hT) (h.body z hz)
  ·rw [List.mem_singleton] at hz;subst hz
   exact m.slice (tags_ne hT) hy
 ·exact h.ev.move m (tags_no hT (fun h=>by cases h) (fun h=>by cases h))
theorem PX.grow_ev (h:PX w T p) {y:Ev} (hg:w.grownBy w7 p.evv.ownBlock) (ho:Own w7 0 104 28 v' (p.ev.length+1) ((p.ev++[y]).flatMap Ev.cells)) (hw:v'.ownBlock=p.evv.ownBlock∨∃ g,v'.ownBlock=some g∧w.heap.size≤g) :
 PX (w7.setCell ⟨p.x,6,none⟩ v') (T.set v'.ownBlock .ev) { p with ev:=p.ev++[y],evv:=v' }∧Mv w T (w7.setCell ⟨p.x,6,none⟩ v') (T.set v'.ownBlock .ev) (fun j=>p.evv.ownBlock=some j∨j=p.x):=by
 have m:=grow_mv h h.ev hg ho hw 6 v'
 have hT:=grow_tags h h.ev
 have hh:=(grow_hdr h h.ev hg (fun h=>by cases h)).put 6 v'
 refine ⟨⟨by simpa [PS.cells] using hh,(m.old _ h.hdr.lt).trans h.tx,m.slice (tags_ne hT) h.dis,?_,?_,fun k x hx=>recs_move h m hT (fun k=>⟨(fun h=>by cases h),(fun h=>by cases h),(fun h=>by cases h)⟩) k x hx,?_,?_,?_,m.lt⟩,m⟩
 ·exact h.hold.move m (tags_no hT (fun h=>by cases h) (fun h=>by cases h))
 ·exact h.lines.move m (tags_no hT (fun h=>by cases h) (fun h=>by cases h))
 ·exact h.out.move m (tags_no hT (fun h=>by cases h) (fun h=>by cases h))
 ·exact fun z hz=>m.slice (tags_ne hT) (h.body z hz)
 ·have:=grow_row h h.ev hg ho hw (fun h=>by cases h) 6 v'
  simpa using this
theorem PX.nil_out (h:PX w T p):PX (w.setCell ⟨p.x,5,none⟩ (.slice none 0 0)) T { p with out:=[],ov:=.slice none 0 0 }:=by
 have m:=h.setHdr 5 (.slice none 0 0)
 have hT:∀ j,j=p.x→T j=some .hdr∨T j=some .hdr:=fun j hj=>.inl (by rw [hj];exact h.tx)
 have hh:=h.hdr.put 5 (.slice none 0 0)
 refine ⟨by simpa [PS.cells] using hh,h.tx,m.slice (tags_ne hT) h.dis,h.hold.move m (tags_no hT (fun h=>by cases h) (fun h=>by cases h)),h.lines.move m (tags_no hT (fun h=>by cases h) (fun h=>by cases h)),fun k x hx=>recs_move h m hT (fun k=>⟨(fun h=>by cases h),(fun h=>by cases h),(fun h=>by cases h)⟩) k x hx,?_,?_,?_,m.lt⟩
 ·exact ⟨Own.nil _ _ _ _,fun g hg=>by simp [Value.ownBlock] at hg⟩
 ·exact fun z hz=>by cases hz
 ·exact h.ev.move m (tags_no hT (fun h=>by cases h) (fun h=>by cases h))
theorem PX.nil_ev (h:PX w T p):PX (w.setCell ⟨p.x,6,none⟩ (.slice none 0 0)) T { p with ev:=[],evv:=.slice none 0 0 }:=by
 have m:=h.setHdr 6 (.slice none 0 0)
 have hT:∀ j,j=p.x→T j=some .hdr∨T j=some .hdr:=fun j hj=>.inl (by rw [hj];exact h.tx)
 have hh:=h.hdr.put 6 (.slice none 0 0)
 refine ⟨by simpa [PS.cells] using hh,h.tx,m.slice (tags_ne hT) h.dis,h.hold.move m (tags_no hT (fun h=>by cases h) (fun h=>by cases h)),h.lines.move m (tags_no hT (fun h=>by cases h) (fun h=>by cases h)),fun k x hx=>recs_move h m hT (fun k=>⟨(fun h=>by cases h),(fun h=>by cases h),(fun h=>by cases h)⟩) k x hx,?_,?_,?_,m.lt⟩
 ·exact h.out.move m (tags_no hT (fun h=>by cases h) (fun h=>by cases h))
 ·exact fun z hz=>m.slice (tags_ne hT) (h.body z hz)
 ·exact ⟨Own.nil _ _ _ _,fun g hg=>by simp [Value.ownBlock] at hg⟩
def PP (w:World) (T:Tags) (x:Nat) (lv:Value) (X:XS) (w':World):Prop:=∃ p' T' S,p'.x=x∧p'.lv=lv∧p'.pt=X∧PX w' T' p'∧Mv w T w' T' S∧∀ i,S i→T.on i
def PPost (w:World) (T:Tags) (x:Nat) (lv:Value) (X:XS) (v:Value) (e:Ending) (w':World):Prop:=e=.returned v∧PP w T x lv X w'
theorem PX.contact (h:PX w T p) {k:Nat} {x:RA} (hx:p.R[k]? = some x) (t:Int) :
 PX (w.setCell ⟨x.rb,3,none⟩ (.int .i64 t)) T { p with R:=p.R.set k { x with last:=t } }∧Mv w T (w.setCell ⟨x.rb,3,none⟩ (.int .i64 t)) T (· = x.rb):=by
 have hr:=h.recs k x hx
 have m:Mv w T (w.setCell ⟨x.rb,3,none⟩ (.int .i64 t)) T (· = x.rb):=⟨(Keep.refl _ _).put _ _,fun _ _=>rfl,fun j hj=>Nat.lt_of_lt_of_le (h.lt j hj) ((Keep.refl (· = x.rb) w).put 3 _).size⟩
 have hN:∀ i,i=x.rb→T i≠none:=fun i hi=>by rw [hi,hr.tb];exact fun h=>by cases h
 refine ⟨h.line m (fun i hi=>.inl (by rw [hi];exact hr.tb)) ?_ (List.getElem?_eq_some_iff.1 hx).1 (fun y hy=>by rw [hx] at hy;cases hy;rfl),m⟩
 have hb:=hr.blk.put 3 (.int .i64 t)
 refine ⟨by simpa [RA.cells] using hb,hr.tb,hr.line.keep m.keep (fun e=>?_) (fun g hg e=>?_),hr.tl,hr.tr,m.srcs hN hr.src⟩
 ·have:=hr.tl
  rw [show x.lb=x.rb from e,hr.tb] at this
  injection this with this;cases this
 ·have:=hr.tr g hg
  rw [show g=x.rb from e,hr.tb] at this
  injection this with this;cases this
theorem PX.lop (h:PX w T p) {k:Nat} {x:RA} (hx:p.R[k]? = some x) {s':CL} {v:Value} {e:Ending} (hp:LPost w x.lb x.r s' v e w') :
 e=.returned v∧∃ (x':RA) (T':Tags) (S:Nat→Prop),x'.rb=x.rb∧x'.lb=x.lb∧x'.s=s'∧x'.d=x.d∧x'.src=x.src∧x'.last=x.last∧x'.B=x.B∧x'.bc=x.bc∧PX w' T' { p with R:=p.R.set k x' }∧Mv w T w' T' S∧∀ i,S i→T i=some (.line k)∨T i=some (.ans k):=by
 obtain ⟨r',A',c',rfl,hl,hk,hn⟩:=hp
 have hr:=h.recs k x hx
 have hS:∀ i,(i=x.lb∨some i=x.r)→T i=some (.line k)∨T i=some (.ans k):=fun i hi=>by
  rcases hi with rfl | hi
  ·exact .inl hr.tl
  ·exact .inr (hr.tr i hi.symm)
 have hlt:∀ g,r'=some g→g<w'.heap.size:=fun g hg=>hl.lt g hg
 have m:Mv w T w' (T.set r' (.ans k)) (fun i=>i=x.lb∨some i=x.r):=by
  refine ⟨hk,fun i hi=>?_,fun i hi=>?_⟩
  ·unfold Tags.set
   by_cases e:r'=some i
   ·rw [if_pos e]
    rcases hn i e with q | q
    ·exact (hr.tr i q).symm
    ·omega
   ·rw [if_neg e]
  ·unfold Tags.set at hi
   by_cases e:r'=some i
   ·exact hlt i e
   ·rw [if_neg e] at hi;exact Nat.lt_of_lt_of_le (h.lt i hi) hk.size
 have hN:∀ i,(i=x.lb∨some i=x.r)→T i≠none:=fun i hi=>by rcases hS i hi with e | e <;> rw [e] <;> exact fun h=>by cases h
 refine ⟨rfl,{ x with r:=r',A:=A',c:=c',s:=s' },T.set r' (.ans k),_,rfl,rfl,rfl,rfl,rfl,rfl,rfl,rfl,?_,m,hS⟩
 refine h.line m (fun i hi=>.inr (hS i hi)) ⟨?_,(m.old _ hr.blk.lt).trans hr.tb,hl,(m.old _ hr.line.top.lt).trans hr.tl,fun g hg=>Tags.set_at T hg,m.srcs hN hr.src⟩ (List.getElem?_eq_some_iff.1 hx).1 (fun y hy=>by rw [hx] at hy;cases hy;rfl)
 refine hr.blk.keep hk (fun hs=>?_)
 have:=hr.tb
 rcases hS _ hs with e | e <;> rw [e] at this <;> injection this with this <;> cases this
end
theorem EPk:Elem Tryz.prog 32 56 3 40 (.agg #[.int .i64 0,.int .i64 0,.slice none 0 0]):=⟨Tryz.underlying32,by kernel_rfl,rfl,by decide⟩
theorem own_or {x:Option Addr} {n c k:Nat} {o:Option Nat} (h:x.map (·.block)=o∨x.map (·.block)=some k):(Value.slice x n c).ownBlock=o∨∃ g,(Value.slice x n c).ownBlock=some g∧k≤g:=by
 rcases h with h | h
 ·exact .inl (by cases x <;> simpa [Value.ownBlock] using h)
 ·cases x with
  | none=>simp at h
  | some a=>exact .inr ⟨k,by simpa [Value.ownBlock] using h,Nat.le_refl _⟩
theorem one_restX {F G:Option Addr→Nat→Nat→World→Prop} {goal:Prop} (main:(∀ x c g W,F x c g W→G x c g W)→goal) (rest:∀ x c g W,F x c g W→G x c g W):goal:=main rest
theorem PP.mk {w w':World} {T T':Tags} {x:Nat} {lv:Value} {X:XS} {p':PS} {S:Nat→Prop} (hpx:PX w' T' p') (hx:p'.x=x) (hlv:p'.lv=lv) (hpt:p'.pt=X) (hm:Mv w T w' T' S) (hS:∀ i,S i→T.on i):PP w T x lv X w':=⟨p',T',S,hx,hlv,hpt,hpx,hm,hS⟩
structure SrcOk (l:List Src):Prop where
 n:l.length≤16
 el:∀ s∈l,i64ok s.k∧s.nd.length≤200∧∀ x∈s.nd,i64ok x
structure LnOk (l:Ln):Prop where
 vl:VL l.s
 la:0≤l.last∧l.last≤1099511627776
 d:i64ok l.d
 src:SrcOk l.src
theorem encS_len:∀ (l:List Src),(∀ s∈l,i64ok s.k∧s.nd.length≤200∧∀ x∈s.nd,i64ok x)→(encS l).length≤l.length * 2020
 | [],_=>by simp [encS]
 | s :: l,h=>by
   have h1:=encS_len l (fun x hx=>h x (List.mem_cons_of_mem _ hx))
   obtain ⟨h2,h3,h4⟩:=h s (List.mem_cons_self ..)
   have h5:=encI_le h2
   have h6:=encL_le' (l:=s.nd) (by omega) h4
   have e:encS (s :: l)=encI s.k++encL s.nd++encS l:=by simp [encS]
   rw [e,List.length_append,List.length_append,List.length_cons]
   omega
theorem bodyL_len {l:Ln} (h:LnOk l):(encD (encCL l.s)).length≤3010∧(encI l.d).length≤10∧(encI l.src.length).length≤10∧(encS l.src).length≤32320:=by
 have h1:=encCL_le h.vl.ok
 have h2:=encD_le' (b:=encCL l.s) (by omega)
 have h3:=encI_le h.d
 have h4:=h.src.n
 have h5:=encI_le (n:=(l.src.length:Int)) ⟨by omega,by omega⟩
 have h6:=encS_len l.src h.src.el
 omega
theorem encS_take {l:List Src} {k:Nat} {s:Src} (h:l[k]? = some s):encS (l.take (k+1))=encS (l.take k)++(encI s.k++encL s.nd):=by
 unfold encS
 rw [List.take_add_one,h];simp
theorem call_any (w:World) (lb:Nat) (r:Option Nat) (A:Option Addr) (c:Nat) (s:CL) (h:LineAt w lb r A c s):Calls Tryz.prog 80 #[.pointer (some ⟨lb,0,none⟩)] w (BPost w (.int .i64 s.call)):=by
 obtain ⟨c0,_⟩:=h.cs
 have hlt:=h.top.lt
 clear h
 go_enter Tryz.func80,Tryz.ntmps80
 go_wp2
 go_ret
 exact ⟨rfl,rfl⟩
theorem SAs.at_ {w:World} {Av:Nat→Prop} {B:Option Addr} {l:List SA} (h:SAs w Av B l) {k:Nat} {a:SA} (ha:l[k]? = some a):∃ b off,B=some ⟨b,off,none⟩∧b<w.heap.size ∧
 w.cell? ⟨b,off+k * 2,none⟩=some (.int .i64 a.k)∧w.cell? ⟨b,off+k * 2+1,none⟩=some (.slice a.A a.nd.length a.c):=by
 have hk:=(List.getElem?_eq_some_iff.1 ha).1
 obtain ⟨b,off,e,hb,_,hr⟩:=h.sl.at_ (by omega)
 have g:=fun j (hj:j<2) u (hu:a.cells[j]? = some u)=>hr (k * 2+j) u (by rw [show (l.flatMap SA.cells)[k * 2+j]? = (l[k]?).bind (fun a=>a.cells[j]?) from flat_get SA.cells 2 (fun _=>rfl) l k j hj,ha];exact hu)
 exact ⟨b,off,e,hb,g 0 (by omega) _ rfl,g 1 (by omega) _ rfl⟩
set_option maxHeartbeats 8000000 in
set_option maxRecDepth 100000 in
theorem offer_any {w:World} {T:Tags} {p:PS} (h:PX w T p) {k:Nat} {x:RA} (hx:p.R[k]? = some x) (hok:LnOk x.pt) (hn:p.out.length≤1000000) (now:Int) :
 Calls Tryz.prog 46 #[.pointer (some ⟨p.x,0,none⟩),.pointer (some ⟨x.rb,0,none⟩),.int .i64 now] w (PPost w T p.x p.lv (p.pt.offer k x.pt now) (.tuple #[])):=by
 have HX:=hid h
 have hr:=h.recs k x hx
 have HR:=hid hr
 have HXX:=hid hx
 have HOK:=hid hok
 have hbl:=bodyL_len hok
 obtain ⟨hbl1,hbl2,hbl3,hbl4⟩:=hbl
 have hsrn:=hok.src.n
 have HC0:Hid (∀ W,Same w W→W.cell? ⟨x.rb,0,none⟩=some (.pointer (some ⟨x.lb,0,none⟩))∧W.cell? ⟨x.rb,1,none⟩=some (.int .i64 x.d)∧W.cell? ⟨x.rb,2,none⟩=some (.slice x.B x.src.length x.bc)∧W.cell? ⟨x.rb,3,none⟩=some (.int .i64 x.last)):=hid (fun W hk=>by have hb:=hr.blk.keep hk (fun f=>f);exact ⟨hb.at_ 0,hb.at_ 1,hb.at_ 2,hb.at_ 3⟩)
 have HS0:Hid (MS w (w.alloc (.cells #[.slice none 0 0] 157)) w.heap.size none none 0 []) :=
  hid ⟨⟨Blk.made w 157 #[.slice none 0 0],Own.nil _ 0 5 1,rfl,fun g e=>by cases e⟩,(Keep.refl _ w).alloc _,fun g e=>by (cases e),Nat.le_refl _⟩
 have hxrb:x.rb<w.heap.size:=hr.blk.lt
 have hsl:x.pt.src.length=x.src.length:=by simp [RA.pt]
 have HBL:=hid (show bodyL x.pt=[]++encD (encCL x.s)++encI x.d++encI (x.src.length:Int)++encS (x.src.map SA.pt) by simp [bodyL,RA.pt])
 have hd:=hok.d
 rw [hsl] at hsrn hbl3
 have hbl1:(encD (encCL x.s)).length≤3010:=hbl1
 have hbl2:(encI x.d).length≤10:=hbl2
 have hbl4:(encS (x.src.map SA.pt)).length≤32320:=hbl4
 have hd:i64ok x.d:=hd
 have HLB:=hid (And.intro hbl1 (And.intro hbl2 (And.intro hbl3 hbl4)))
 obtain ⟨z0,_,_,_⟩:=HC0.out _ HS0.out.same
 have HM:=hid (fun W (hk:Same w W)=>marshal_any W x.lb x.r x.A x.c x.s (hr.line.same hk) hok.vl.ok)
 have HXE:Hid ((encCL x.s).length≤3000):=hid (encCL_le hok.vl.ok)
 have HSR:=hid (fun W (hk:Same w W)=>hr.src.same hk)
 unfold MarPost at HM
 clear h hr hx hok hbl1 hbl2 hbl3 hbl4
 generalize x.B=SB at *
 go_enter Tryz.func46,Tryz.ntmps46
 go_upto_region 2 with (first
  | (go_at_call 76;(with_reducible refine (HM.out _ HS0.out.same).mono ?_);rintro e w1 ⟨g1,rfl,hg1,hB1,hk1⟩
     have HS0b:=hid (⟨⟨HS0.out.wr.top.keep hk1 (fun f=>f),Own.nil _ 0 5 1,rfl,fun g e=>(by cases e)⟩,HS0.out.same.then hk1,fun g e=>(by cases e),Nat.le_refl _⟩:MS w w1 w.heap.size none none 0 [])
     have HWB:=hid (wBytes_any w1 w.heap.size none none 0 [] HS0b.out.wr (by simp) (some ⟨g1,0,none⟩) (encCL x.s).length (encCL x.s).length (encCL x.s) (by have:=Sl.of_blk (size:=1) (n:=(encCL x.s).length) (Av:=fun i=>i=w.heap.size∨some i=none) hB1 (by simp [bcells_len]) (by have:=World.size_alloc w (.cells #[.slice none 0 0] 157);rintro (h | h);omega;cases h);simpa using this) (by have:=HXE.out;omega))
     unfold WPost at HWB
     clear hg1 hB1 hk1)
  | (go_at_call 75;(with_reducible refine HWB.out.mono ?_);rintro e w2 ⟨r2,A2,c2,rfl,hW2,hK2,hG2⟩;have HS2:=hid (HS0b.out.next hW2 hK2 hG2);clear hW2 hK2 hG2;obtain ⟨_,z1,_,_⟩:=HC0.out _ HS2.out.same))
 have HL1:=hid (show ([]++encD (encCL x.s)).length≤3010 from by have:=HLB.out.1;simpa using this)
 generalize ([]++encD (encCL x.s))=b1 at *
 have HI2:=hid (wInt_any w2 w.heap.size r2 A2 c2 b1 HS2.out.wr (by have:=HL1.out;omega) x.d hd.1 hd.2)
 unfold WPost at HI2
 clear HWB HS0b hbl1 hbl2 hbl4 z0
 go_upto_region 3 with (go_at_call 77;(with_reducible refine HI2.out.mono ?_);rintro e w3 ⟨r3,A3,c3,rfl,hW3,hK3,hG3⟩;have HS3:=hid (HS2.out.next hW3 hK3 hG3);clear hW3 hK3 hG3;obtain ⟨_,_,z2,_⟩:=HC0.out _ HS3.out.same)
 have HI3:=hid (wInt_any w3 w.heap.size r3 A3 c3 _ HS3.out.wr (by have:=HL1.out;have:=HLB.out.2.1;simp only [List.length_append];omega) (x.src.length:Int) (by omega) (by omega))
 unfold WPost at HI3
 clear HI2 HS2 z1
 go_upto_region 4 with (go_at_call 77;(with_reducible refine HI3.out.mono ?_);rintro e w4 ⟨r4,A4,c4,rfl,hW4,hK4,hG4⟩;have HS4:=hid (HS3.out.next hW4 hK4 hG4);clear hW4 hK4 hG4)
 obtain ⟨_,_,z2,_⟩:=HC0.out _ HS4.out.same
 have HL4:=hid (show (b1++encI x.d++encI (x.src.length:Int)).length≤3030 from by have:=HL1.out;have:=HLB.out.2.1;have:=HLB.out.2.2.1;simp only [List.length_append];omega)
 generalize (b1++encI x.d++encI (x.src.length:Int))=b4 at *
 clear HI3 HS3 HL1
 go_wp2_with fail
 go_loopw [34] (fun i wr=>∃ (j:Nat) (r:Option Nat) (A:Option Addr) (c:Nat),j≤x.src.length∧i=.int .i64 j∧Hid (MS w wr w.heap.size r A c (b4++encS ((x.src.map SA.pt).take j)))) (fun i _=>x.src.length - (RowKit.intOf i).toNat)
 case atStart=>exact ⟨0,r4,A4,c4,Nat.zero_le _,rfl,hid (by rw [List.take_zero];simpa [encS] using HS4.out)⟩
 case round =>
  obtain ⟨j,r,A,c,hj,rfl,HL⟩:=hrel
  clear HS4 z2
  by_cases hjn:j<x.src.length
  ·obtain ⟨a,ha⟩:=get_some hjn
   have hsr:=HSR.out wr HL.out.same
   obtain ⟨b,off,hB,hb,y0,y1⟩:=hsr.at_ ha
   have hel:=hsr.el a (List.mem_of_getElem? ha)
   have hao:i64ok a.pt.k∧a.pt.nd.length≤200∧∀ n∈a.pt.nd,i64ok n:=HOK.out.src.el a.pt (List.mem_map.2 ⟨a,List.mem_of_getElem? ha,rfl⟩)
   have HTK:=hid (encS_take (l:=x.src.map SA.pt) (k:=j) (s:=a.pt) (by rw [List.getElem?_map,ha];rfl))
   have hlt:(encS ((x.src.map SA.pt).take j)).length≤32320:=by
    have h1:=encS_len ((x.src.map SA.pt).take j) (fun s hs=>HOK.out.src.el s (List.mem_of_mem_take hs))
    rw [List.length_take,List.length_map] at h1
    have:min j x.src.length≤16:=by omega
    have:min j x.src.length * 2020≤16 * 2020:=Nat.mul_le_mul_right _ this
    omega
   have HLT:=hid hlt
   obtain ⟨ak,aA,ac,and_⟩:=a
   simp only [SA.pt] at hao HTK
   simp only at y0 y1 hel
   obtain ⟨hak,han,hae⟩:=hao
   have HAE:=hid hae
   have HEL:=hid ((HSR.out w (Keep.refl _ _)).el _ (List.mem_of_getElem? ha)).old
   have hki:=encI_le hak
   have hj0:(0:Int)≤(j:Int):=Int.natCast_nonneg _
   have hj1:(j:Int)<(x.src.length:Int):=by omega
   have HS5:Hid (MS w (wr.alloc (.cells #[.int .i64 ak,.slice aA and_.length ac] 129)) w.heap.size r A c (b4++encS ((x.src.map SA.pt).take j))):=hid ⟨HL.out.wr.same ((Keep.refl _ _).alloc _),HL.out.same.alloc _,HL.out.r0,HL.out.wb0⟩
   have HI5:=hid (wInt_any _ w.heap.size r A c _ HS5.out.wr (by have:=HL4.out;simp only [List.length_append];omega) ak hak.1 hak.2)
   unfold WPost at HI5
   have HBA:=hid (Blk.made wr 129 #[.int .i64 ak,.slice aA and_.length ac])
   have HNE:=hid (show ¬(wr.heap.size=w.heap.size∨some wr.heap.size=r) from fun hs=>by have h1:=HL.out.wr.top.lt;rcases hs with hs | hs;omega;have:=HL.out.wr.lt _ hs.symm;omega)
   clear ha hsr hel hae hlt
   subst hB
   go_wp2_with (first
    | (go_at_call 77;(with_reducible refine HI5.out.mono ?_);rintro e w6 ⟨r6,A6,c6,rfl,hW6,hK6,hG6⟩
       have hb6:=HBA.out.keep hK6 HNE.out
       have q1:w6.cell? ⟨wr.heap.size,1,none⟩=some (.slice aA and_.length ac):=(hb6.at_ 1).trans rfl
       have HS6:=hid (HS5.out.next hW6 hK6 hG6)
       have HIN:=hid (wInts_any w6 w.heap.size r6 A6 c6 _ HS6.out.wr (by have:=HL4.out;have:=HLT.out;simp only [List.length_append];omega) aA and_.length ac and_ ((HEL.out.same HS6.out.same).wide (fun i _ hs=>by rcases hs with rfl | hs;exact Nat.le_refl _;exact HS6.out.r0 i hs.symm)) (by omega) HAE.out)
       unfold WPost at HIN
       clear hW6 hK6 hG6 hb6)
    | (go_at_call 78;(with_reducible refine HIN.out.mono ?_);rintro e w7 ⟨r7,A7,c7,rfl,hW7,hK7,hG7⟩;have HS7:=hid (HS6.out.next hW7 hK7 hG7);clear hW7 hK7 hG7))
   go_roundw
   case rel =>
    have HF:=hid (show MS w w7 w.heap.size r7 A7 c7 (b4++encS ((x.src.map SA.pt).take (j+1))) from by rw [HTK.out];simpa using HS7.out)
    first | exact ⟨j+1,r7,A7,c7,by omega,by go_num,HF⟩ | ((repeat apply Exists.intro);refine And.intro ?_ rfl;exact ⟨j+1,r7,A7,c7,by omega,by go_num,HF⟩)
   case measure=>simp [RowKit.intOf];omega
  ·have hje:j=x.src.length:=by omega
   subst hje
   have HF:=hid (show MS w wr w.heap.size r A c (b4++encS (x.src.map SA.pt)) from by have:=HL.out;rw [List.take_of_length_le (by simp)] at this;exact this)
   clear HL
   have HOW:=hid (fun W (hk:Same w W)=>owner_any W x.lb x.r x.A x.c x.s (HR.out.line.same hk))
   have HCL:=hid (fun W (hk:Same w W)=>call_any W x.lb x.r x.A x.c x.s (HR.out.line.same hk))
   have HAN:=hid (fun W (hk:Same w W)=>answers_any W x.lb x.r x.A x.c x.s (HR.out.line.same hk) (HR.out.line.same hk) (show x.s.ans.length≤1000 from by have h:x.s.ans.length≤200:=HOK.out.vl.n;omega))
   unfold CopyPost at HAN
   obtain ⟨z0,z1,_,z3⟩:=HC0.out _ HF.out.same
   go_upto_region 11 with (go_at_call 40;(with_reducible refine (HOW.out _ HF.out.same).mono ?_);rintro e w8 ⟨rfl,hk8⟩;have HS8:=hid (⟨HF.out.wr.same hk8,HF.out.same.then hk8,HF.out.r0,HF.out.wb0⟩:MS w w8 w.heap.size r A c (b4++encS (x.src.map SA.pt)));clear hk8)
   clear HF HOW z0 z1 z2 z3
   obtain ⟨z0,z1,_,_⟩:=HC0.out _ HS8.out.same
   have HBY:=hid (show b4++encS (x.src.map SA.pt)=bodyL x.pt from HBL.out.symm)
   rw [HBY.out] at HS8
   have hbll:(bodyL x.pt).length≤40000:=by rw [←HBY.out];have:=HL4.out;have:=HLB.out.2.2.2;simp only [List.length_append];omega
   have HBLL:=hid hbll
   have HEM:=hid (fun (W:World) (A:Option Addr) (c:Nat) (hb:Sl W (fun _=>False) 1 A (bodyL x.pt).length (bcells (bodyL x.pt)))=>show Calls Tryz.prog 79 #[.agg #[.int .i64 4,.int .i64 x.s.call,.int .i64 x.d,.int .i64 x.s.cen,.int .i64 x.s.ep,.int .i64 x.s.ans.length,.slice A (bodyL x.pt).length c]] W (NB W (encM (offM x.pt))) from encM_any W (offM x.pt) A c hb)
   unfold NB at HEM
   go_cut [11] from 53 to 72 (fun u w'=>∃ (A:Option Addr) (c:Nat),u=.slice A (encM (offM x.pt)).length c∧Hid (Sl w' (· < w.heap.size) 1 A (encM (offM x.pt)).length (bcells (encM (offM x.pt)))∧Same w w'))
   case first =>
    have HCur:=hid (show Same w w8.drew from HS8.out.same.drew)
    have HWr:=hid (show Wr w8.drew w.heap.size r A c (bodyL x.pt) from HS8.out.wr.same (Keep.refl (fun _=>False) _).drew)
    clear HBY HS8
    go_region_held3 (fun W=>W.cell? ⟨x.rb,0,none⟩=some (.pointer (some ⟨x.lb,0,none⟩))∧W.cell? ⟨x.rb,1,none⟩=some (.int .i64 x.d))
     (first | with_reducible exact ⟨(HC0.out _ HCur.out).1,(HC0.out _ HCur.out).2.1⟩ | go_keep)
     (first
       | (go_at_call 80;(with_reducible refine (HCL.out _ HCur.out).mono ?_);rintro e wq ⟨rfl,rfl⟩)
       | (go_at_call 45;(with_reducible refine (HAN.out _ HCur.out).mono ?_);rintro e wq ⟨Bq,dq,rfl,_,hkq⟩;have HCn:=hid (HCur.out.then hkq);clear HCur;have HCur:=HCn;clear HCn;have HWn:=hid (HWr.out.same hkq);clear HWr;have HWr:=HWn;clear HWn;(try (have HBn:=hid (HBq.out.keep hkq (fun f=>f));clear HBq;have HBq:=HBn;clear HBn));clear hkq)
       | (go_at_call 81;(with_reducible refine (encoded_any _ w.heap.size r A c (bodyL x.pt) HWr.out (by have:=HBLL.out;omega)).mono ?_);rintro e wq ⟨rfl,hbq,hkq⟩;have HBq:=hid hbq;have HCn:=hid (HCur.out.then hkq);clear HCur;have HCur:=HCn;clear HCn;have HWn:=hid (HWr.out.same hkq);clear HWr;have HWr:=HWn;clear HWn;clear hkq hbq)
       | (go_at_call 79;(with_reducible refine (HEM.out _ _ _ (by have:=Sl.of_blk (size:=1) (n:=(bodyL x.pt).length) (Av:=fun _=>False) HBq.out (by simp [bcells_len]) (fun f=>f);simpa using this)).mono ?_);rintro e wq ⟨Am,cm,rfl,hsm,hkq⟩;have HSM:=hid hsm;have HKM:=hid hkq;clear hsm hkq;have HKF:=hid (HCur.out.then HKM.out);have HSF:=hid (HSM.out.wide (Av':=(· < w.heap.size)) (fun i _ hi=>Nat.lt_of_lt_of_le hi HCur.out.size));clear HCur HSM HKM;have HCur:=HKF))
    all_goals go_wp2_with fail
    all_goals go_meet
    all_goals exact ⟨_,_,rfl,hid ⟨HSF.out,HKF.out⟩⟩
   case rest =>
    obtain ⟨Am,cm,rfl,HM⟩:=hcut
    have HXc:=hid (HX.out.same HM.out.2)
    have HBC:=hid (HM.out.1.wide (Av':=fun i=>T i≠none) (fun i _ hi=>HX.out.lt i hi))
    have HMC:=hid HM.out.2
    clear HEM HAN HCL HBLL HS8 HM HBY
    generalize heb:encM (offM x.pt)=eb at *
    have HEB:=hid heb
    clear heb
    go_upto_region 12 with fail
    refine wp_region_held_drew (S:=fun W=>W.cell? ⟨p.x,0,none⟩=some (.int .i64 p.cen)) (by kernel_rfl) ((HXc.out.hdr.at_ 0).trans rfl) (fun hHeld=>?_)
    refine tk 0 ?_
    refine tk 1 ?_
    refine tk 2 ?_
    refine tk 3 ?_
    refine tk 5 ?_
    refine tk 6 ?_
    refine tk 7 ?_
    refine tk 8 ?_
    refine tk 9 ?_
    refine tk 10 ?_
    refine tk 11 ?_
    have HXd:=hid (HXc.out.same (Keep.refl (fun _=>False) _).drew)
    clear hHeld
    generalize hwd:wc.drew=wd at *
    have HKwd:=hid (show Same wc wd from by rw [←hwd];exact (Keep.refl _ _).drew)
    clear hwd
    apply one_restX (F:=fun _ _ _ W=>∃ (v:Value) (T2:Tags) (S2:Nat→Prop),PX W T2 { p with out:=p.out++[(⟨p.cen,x.s.cen,Am,cm,eb⟩:PkA)],ov:=v }∧Mv w T W T2 S2∧∀ i,S2 i→T i=some .out∨T i=some .hdr)
    case main =>
     intro REST
     refine wpAnyH_ready (rs:=[4,12]) (by kernel_rfl) (by simp) ?_
     refine AllReadyH.cons rfl (fun K hK=>?_) (AllReadyH.cons rfl (fun K hK=>?_) AllReadyH.nil)
     ·have e21:wd.cell? ⟨p.x,5,none⟩=some (p.ov):=(HXd.out.hdr.at_ 5).trans rfl
      go_simp
      clear e21
      refine hK.out _ _ ((HXd.out.hdr.at_ 0).trans rfl) (fun hHeld21=>?_)
      clear hK K
      refine pput ?_
      refine rd1 12 (fun K hK=>?_)
      go_simp
      have hb22:=Blk.made wd 56 #[.int .i64 p.cen,.int .i64 x.s.cen,.slice Am eb.length cm]
      have hk22:Same wd (wd.alloc (.cells #[.int .i64 p.cen,.int .i64 x.s.cen,.slice Am eb.length cm] 56)):=(Keep.refl _ _).alloc _
      have HX22:=hid (HXd.out.same hk22)
      obtain ⟨g22,hg22⟩:∃ g,g=wd.heap.size:=⟨_,rfl⟩
      rw [←hg22] at hb22 ⊢
      have HKd22:=hid hk22
      clear hg22 hk22
      generalize (wd.alloc (.cells #[.int .i64 p.cen,.int .i64 x.s.cen,.slice Am eb.length cm] 56))=q22 at *
      refine hK.out _ _ ((HX22.out.hdr.at_ 0).trans rfl) (fun hHeld22=>?_)
      clear hK K
      refine pput ?_
      refine rd1 13 (fun K hK=>?_)
      refine EPk.step2 rfl (.tmp 77) (.tmp 85) rfl (p.ov) (some ⟨g22,0,none⟩) 1 1 rfl rfl 0 p.out.length (p.out.flatMap PkA.cells) (PkA.cells (⟨p.cen,x.s.cen,Am,cm,eb⟩:PkA)) (p.out.length+1) ((p.out++[(⟨p.cen,x.s.cen,Am,cm,eb⟩:PkA)]).flatMap PkA.cells) rfl (by rw [List.flatMap_append,List.flatMap_singleton]) (HX22.out.out.own) rfl (fun _=>⟨_,rfl,src_blk hb22⟩) (by intro u hu;simp [PkA.cells] at hu;rcases hu with rfl | rfl | rfl <;> rfl) (by omega) (by unfold maxLen;omega) (Nat.zero_le _) (by
       intro A7 c7 w7 ho7 hg7 hw7
       have hgr:=HX22.out.grow_out hg7 ho7 (own_or hw7) (y:=(⟨p.cen,x.s.cen,Am,cm,eb⟩:PkA)) (HBC.out.same (HKwd.out.then HKd22.out))
       have HX7:=hid hgr.1
       have HM7:=hid hgr.2
       have hkq:Keep (fun j=>(p.ov).ownBlock=some j) q22 w7:=(Keep.refl _ _).grown hg7 (fun x e _=>e)
       have hh7:=grow_hdr HX22.out HX22.out.out hg7 (fun h=>by cases h)
       have c4:w7.cell? ⟨p.x,5,none⟩=some (p.ov):=(hh7.at_ 5).trans rfl
       have f4:=hh7.free 5
       clear ho7 hg7 hw7 hgr
       refine hK.out _ _ ((hh7.at_ 0).trans rfl) (fun hHeld23=>?_)
       clear hK K
       refine pput ?_
       refine tk 14 ?_
       refine tk 15 ?_
       refine rd1 16 (fun K hK=>?_)
       go_simp
       refine hK.out _ _ ((HX7.out.hdr.at_ 0).trans rfl) (fun hHeld23=>?_)
       clear hK K
       refine pput ?_
       refine wpAnyH_done (by kernel_rfl) ?_ _
       exact REST A7 c7 g22 _ ⟨_,_,_,HX7.out,((Mv.same (HMC.out.then (HKwd.out.then HKd22.out)) HX.out.lt).wide (fun _ f=>f.elim)).trans HM7.out (fun _ _ h=>h),grow_tags HX.out HX.out.out⟩)
     ·go_simp
      have hb24:=Blk.made wd 56 #[.int .i64 p.cen,.int .i64 x.s.cen,.slice Am eb.length cm]
      have hk24:Same wd (wd.alloc (.cells #[.int .i64 p.cen,.int .i64 x.s.cen,.slice Am eb.length cm] 56)):=(Keep.refl _ _).alloc _
      have HX24:=hid (HXd.out.same hk24)
      obtain ⟨g24,hg24⟩:∃ g,g=wd.heap.size:=⟨_,rfl⟩
      rw [←hg24] at hb24 ⊢
      have HKd24:=hid hk24
      clear hg24 hk24
      generalize (wd.alloc (.cells #[.int .i64 p.cen,.int .i64 x.s.cen,.slice Am eb.length cm] 56))=q24 at *
      refine hK.out _ _ ((HX24.out.hdr.at_ 0).trans rfl) (fun hHeld24=>?_)
      clear hK K
      refine pput ?_
      refine rd1 4 (fun K hK=>?_)
      have e25:q24.cell? ⟨p.x,5,none⟩=some (p.ov):=(HX24.out.hdr.at_ 5).trans rfl
      go_simp
      clear e25
      refine hK.out _ _ ((HX24.out.hdr.at_ 0).trans rfl) (fun hHeld25=>?_)
      clear hK K
      refine pput ?_
      refine rd1 13 (fun K hK=>?_)
      refine EPk.step2 rfl (.tmp 77) (.tmp 85) rfl (p.ov) (some ⟨g24,0,none⟩) 1 1 rfl rfl 0 p.out.length (p.out.flatMap PkA.cells) (PkA.cells (⟨p.cen,x.s.cen,Am,cm,eb⟩:PkA)) (p.out.length+1) ((p.out++[(⟨p.cen,x.s.cen,Am,cm,eb⟩:PkA)]).flatMap PkA.cells) rfl (by rw [List.flatMap_append,List.flatMap_singleton]) (HX24.out.out.own) rfl (fun _=>⟨_,rfl,src_blk hb24⟩) (by intro u hu;simp [PkA.cells] at hu;rcases hu with rfl | rfl | rfl <;> rfl) (by omega) (by unfold maxLen;omega) (Nat.zero_le _) (by
       intro A7 c7 w7 ho7 hg7 hw7
       have hgr:=HX24.out.grow_out hg7 ho7 (own_or hw7) (y:=(⟨p.cen,x.s.cen,Am,cm,eb⟩:PkA)) (HBC.out.same (HKwd.out.then HKd24.out))
       have HX7:=hid hgr.1
       have HM7:=hid hgr.2
       have hkq:Keep (fun j=>(p.ov).ownBlock=some j) q24 w7:=(Keep.refl _ _).grown hg7 (fun x e _=>e)
       have hh7:=grow_hdr HX24.out HX24.out.out hg7 (fun h=>by cases h)
       have c4:w7.cell? ⟨p.x,5,none⟩=some (p.ov):=(hh7.at_ 5).trans rfl
       have f4:=hh7.free 5
       clear ho7 hg7 hw7 hgr
       refine hK.out _ _ ((hh7.at_ 0).trans rfl) (fun hHeld26=>?_)
       clear hK K
       refine pput ?_
       refine tk 14 ?_
       refine tk 15 ?_
       refine rd1 16 (fun K hK=>?_)
       go_simp
       refine hK.out _ _ ((HX7.out.hdr.at_ 0).trans rfl) (fun hHeld26=>?_)
       clear hK K
       refine pput ?_
       refine wpAnyH_done (by kernel_rfl) ?_ _
       exact REST A7 c7 g24 _ ⟨_,_,_,HX7.out,((Mv.same (HMC.out.then (HKwd.out.then HKd24.out)) HX.out.lt).wide (fun _ f=>f.elim)).trans HM7.out (fun _ _ h=>h),grow_tags HX.out HX.out.out⟩)
    case rest =>
     intro A7 c7 g7 v1 hF
     obtain ⟨v9,T2,S2,hx2,hm2,ht2⟩:=hF
     have HX2:=hid hx2
     have HM2:=hid hm2
     have HT2:=hid ht2
     have hct:=hx2.contact (k:=k) (x:=x) HXX.out (max x.last now)
     have HCT:=hid hct
     have hr2:=hx2.recs k x HXX.out
     have z3:v1.cell? ⟨x.rb,3,none⟩=some (.int .i64 x.last):=(hr2.blk.at_ 3).trans rfl
     have f3:=hr2.blk.free 3
     have HTR:=hid HR.out.tb
     clear hx2 hm2 ht2 hct hr2 HXc HXd
     go_wp2_with fail
     ·have e9:max x.last now=now:=by omega
      have HE9:=hid e9
      rw [e9] at HCT
      clear e9
      go_end0
      refine And.intro rfl (PP.mk HCT.out.1 rfl rfl ?_ (S:=fun i=>T.on i) ((HM2.out.wide (tags_on HT2.out (fun h=>by cases h))).trans HCT.out.2 (fun i hi e=>?_)) (fun i h=>h))
      ·simp [PS.pt,XS.offer,List.map_set,RA.pt,PkA.pt,HE9.out,←HEB.out]
      ·have e2:i=x.rb:=e
       rw [e2];exact Tags.on_of HTR.out (fun h=>by cases h)
     ·have e9:max x.last now=x.last:=by omega
      have HE9:=hid e9
      rw [e9] at HCT
      clear e9
      go_end0
      refine And.intro rfl (PP.mk HCT.out.1 rfl rfl ?_ (S:=fun i=>T.on i) ((HM2.out.wide (tags_on HT2.out (fun h=>by cases h))).trans HCT.out.2 (fun i hi e=>?_)) (fun i h=>h))
      ·simp [PS.pt,XS.offer,List.map_set,RA.pt,PkA.pt,HE9.out,←HEB.out]
      ·have e2:i=x.rb:=e
       rw [e2];exact Tags.on_of HTR.out (fun h=>by cases h)
theorem EEv:Elem Tryz.prog 33 104 28 288 (.agg #[.int .i64 0,.int .i64 0,.int .i64 0,.int .i64 0,.int .i64 0,.int .i64 0,.int .i64 0,.int .i64 0,.slice none 0 0,.int .i64 0,.int .i64 0,.int .i64 0,.int .i64 0,.int .i64 0,.int .i64 0,.int .i64 0,.int .i64 0,.int .i64 0,.int .i64 0,.int .i64 0,.int .i64 0,.int .i64 0,.int .i64 0,.int .i64 0,.int .i64 0,.slice none 0 0,.slice none 0 0,.slice none 0 0]):=⟨Tryz.underlying33,by kernel_rfl,rfl,by decide⟩
theorem ev_one (y:Ev):∀ u∈y.cells,u.oneCell'=true:=by
 intro u hu
 simp only [Ev.cells,ev22,List.cons_append,List.nil_append,List.mem_cons,List.not_mem_nil,or_false] at hu
 rcases hu with rfl | rfl | rfl | rfl | rfl | rfl | rfl | rfl | rfl | rfl | rfl | rfl | rfl | rfl | rfl | rfl | rfl | rfl | rfl | rfl | rfl | rfl | rfl | rfl | rfl | rfl | rfl | rfl <;> rfl
theorem XS.hold_at {X:XS} {d:Nat} {a b:Int} (h1:X.who[d]? = some a) (h2:X.ep[d]? = some b):X.hold (d:Int)=(a,b):=by
 unfold XS.hold
 rw [Int.toNat_natCast,h1,h2];rfl
theorem holds_at {w:World} {T:Tags} {p:PS} (h:PX w T p) {d:Nat} {a:Int × Int} (ha:p.hold[d]? = some a):∃ b off c,p.hv=.slice (some ⟨b,off,none⟩) p.hold.length c∧b<w.heap.size∧T b=some .hold ∧
 w.cell? ⟨b,off+d * 2,none⟩=some (.int .i64 a.1)∧w.cell? ⟨b,off+d * 2+1,none⟩=some (.int .i64 a.2):=by
 have hd:=(List.getElem?_eq_some_iff.1 ha).1
 obtain ⟨A,c,hv⟩:=h.hold.own.shape
 have ho:=h.hold.own
 rw [hv] at ho
 obtain ⟨b,off,e,hb,_,hr⟩:=(ho.sl (Av:=fun _=>False) (fun _ _ f=>f)).at_ (by omega)
 subst e
 have g:=fun j (hj:j<2) u (hu:(hcells a)[j]? = some u)=>hr (d * 2+j) u (by rw [show (p.hold.flatMap hcells)[d * 2+j]? = (p.hold[d]?).bind (fun a=>(hcells a)[j]?) from flat_get hcells 2 (fun _=>rfl) p.hold d j hj,ha];exact hu)
 exact ⟨b,off,c,hv,hb,h.hold.tag b (by rw [hv];rfl),g 0 (by omega) _ rfl,g 1 (by omega) _ rfl⟩
theorem assignS_call (s:CL) (c e t:Int):(assignS s c e t).call=s.call:=by unfold assignS;split <;> rfl
section
variable {w w' w2:World} {T T' T2:Tags} {S S2:Nat→Prop} {x:Nat} {lv:Value} {X:XS} {v:Value} {e:Ending}
theorem Mv.comp (m:Mv w T w' T' S) (hS:∀ i,S i→T.on i) (m2:Mv w' T' w2 T2 S2) (hS2:∀ i,S2 i→T'.on i):Mv w T w2 T2 (fun i=>T.on i) :=
 (m.wide hS).trans m2 (fun i hi h=>by
   have h1:=hS2 i h
   unfold Tags.on at h1 ⊢
   rw [←m.old i hi];exact h1)
theorem PP.after (m:Mv w T w' T' S) (hS:∀ i,S i→T.on i) (h:PP w' T' x lv X w2):PP w T x lv X w2:=by
 obtain ⟨p',T2,S2,h2,h7,h3,h4,h5,h6⟩:=h
 exact ⟨p',T2,_,h2,h7,h3,h4,m.comp hS h5 h6,fun i h=>h⟩
end
theorem LnOk.bind {l:Ln} (h:LnOk l) (c e t:Int):LnOk { l with s:=assignS l.s c e t }:=⟨assign_vl h.vl c e t,h.la,h.d,h.src⟩
set_option maxHeartbeats 8000000 in
set_option maxRecDepth 100000 in
theorem assignX_any {w:World} {T:Tags} {p:PS} (h:PX w T p) {k:Nat} {x:RA} (hx:p.R[k]? = some x) (hok:LnOk x.pt) (hn:p.out.length≤1000000) (hne:p.ev.length≤1000000) {dn:Nat} (hd:x.d=(dn:Int)) {ha:Int × Int} (hha:p.hold[dn]? = some ha) (now:Int) :
 Calls Tryz.prog 69 #[.pointer (some ⟨p.x,0,none⟩),.pointer (some ⟨x.rb,0,none⟩),.int .i64 now] w (PPost w T p.x p.lv (p.pt.bind k x.pt now) (.tuple #[])):=by
 have HX:=hid h
 have hr:=h.recs k x hx
 have HR:=hid hr
 have HXX:=hid hx
 have HOK:=hid hok
 have HHA:=hid hha
 obtain ⟨hb,off,hc,hv,hbl,hbt,y0,y1⟩:=holds_at h hha
 have HBT:=hid hbt
 have hxrb:x.rb<w.heap.size:=hr.blk.lt
 have hpx:=h.hdr.lt
 have c3:w.cell? ⟨p.x,3,none⟩=some p.hv:=(h.hdr.at_ 3).trans rfl
 rw [hv] at c3
 have z1:w.cell? ⟨x.rb,1,none⟩=some (.int .i64 x.d):=(hr.blk.at_ 1).trans rfl
 have z0:w.cell? ⟨x.rb,0,none⟩=some (.pointer (some ⟨x.lb,0,none⟩)):=(hr.blk.at_ 0).trans rfl
 rw [hd] at z1
 have HD:=hid hd
 have hdl:=(List.getElem?_eq_some_iff.1 hha).1
 have hdi:(dn:Int)<(p.hold.length:Int):=by omega
 have hd0:(0:Int)≤(dn:Int):=Int.natCast_nonneg _
 have HAS:=hid (fun W (hk:Same w W)=>assign_any W x.lb x.r x.A x.c x.s (hr.line.same hk) ha.1 ha.2 now)
 have HBI:=hid (show p.pt.bind k x.pt now=((p.pt.put k { x.pt with s:=assignS x.s ha.1 ha.2 now }).evt ⟨3,now,ha.1,x.s.call,ha.2,0⟩).offer k { x.pt with s:=assignS x.s ha.1 ha.2 now } now from by
  have hh:p.pt.hold x.pt.d=ha:=by
   rw [show x.pt.d=(dn:Int) from hd,XS.hold_at (a:=ha.1) (b:=ha.2) (by simp [PS.pt,hha]) (by simp [PS.pt,hha])]
  unfold XS.bind
  rw [hh];rfl)
 obtain ⟨h1,h2⟩:=ha
 simp only at y0 y1 HAS HBI
 have HSC:=hid (assignS_call x.s h1 h2 now)
 have HLO:=hid (HOK.out.bind h1 h2 now)
 simp only [RA.pt] at HLO
 generalize assignS x.s h1 h2 now=s2 at *
 generalize assignE x.s h1 h2 now=e2 at *
 clear h hr hx hok hd hha hv hbt
 go_enter Tryz.func69,Tryz.ntmps69
 go_upto_region 0 with fail
 go_region
 have hB1:=(Blk.made w 134 #[.int .i64 h1,.int .i64 h2]).drew
 have hK1:Same w (w.alloc (.cells #[.int .i64 h1,.int .i64 h2] 134)).drew:=((Keep.refl _ _).alloc _).drew
 have HK1:=hid hK1
 obtain ⟨q,hq⟩:∃ q,q=w.heap.size:=⟨_,rfl⟩
 rw [←hq] at hB1 ⊢
 have HB1:=hid hB1
 have hql:=hB1.lt
 have HQ:=hid hq
 clear hB1 hK1 hq
 generalize (w.alloc (.cells #[.int .i64 h1,.int .i64 h2] 134)).drew=w1 at *
 have z0:w1.cell? ⟨x.rb,0,none⟩=some (.pointer (some ⟨x.lb,0,none⟩)):=((HR.out.blk.keep HK1.out (fun f=>f)).at_ 0).trans rfl
 have b0:w1.cell? ⟨q,0,none⟩=some (.int .i64 h1):=(HB1.out.at_ 0).trans rfl
 have b1:w1.cell? ⟨q,1,none⟩=some (.int .i64 h2):=(HB1.out.at_ 1).trans rfl
 clear c3 y0 y1 z1
 go_upto_region 1 with fail
 refine wp_region_held_drew (S:=fun W=>W.cell? ⟨x.rb,0,none⟩=some (.pointer (some ⟨x.lb,0,none⟩))∧W.cell? ⟨q,0,none⟩=some (.int .i64 h1)∧W.cell? ⟨q,1,none⟩=some (.int .i64 h2)) (by kernel_rfl) ⟨z0,b0,b1⟩ (fun hHeld=>?_)
 refine tk 0 ?_
 refine tk 1 ?_
 refine tk 2 ?_
 refine tk 3 ?_
 refine tk 4 ?_
 refine tk 5 ?_
 refine tk 6 ?_
 refine tk 7 ?_
 refine tk 8 ?_
 have HKd:=hid (HK1.out.then (Keep.refl (fun _=>False) w1).drew)
 have HBd:=hid (HB1.out.keep (Keep.refl (fun _=>False) w1).drew (fun f=>f))
 clear hHeld HK1 HB1 z0 b0 b1
 generalize w1.drew=wd at *
 refine rd1 9 (fun K hK=>?_)
 go_simp
 (with_reducible refine (HAS.out _ HKd.out).mono ?_)
 rintro e w2 hp
 have hk2:Keep (fun i=>i=x.lb∨some i=x.r) wd w2:=by
  obtain ⟨_,_,_,_,_,hk,_⟩:=hp
  exact hk
 obtain ⟨rfl,x2,T2,S2,i1,i2,i3,i4,i5,i6,i7,i8,hx2,hm2,hs2⟩:=(HX.out.same HKd.out).lop HXX.out hp
 have hlbq:x.lb<q:=by rw [HQ.out];exact HR.out.line.top.lt
 have hrq:∀ g,x.r=some g→g<q:=fun g hg=>by rw [HQ.out];exact HR.out.line.lt g hg
 have hb2:=HBd.out.keep hk2 (fun hs=>by rcases hs with hs | hs;omega;have:=hrq q hs.symm;omega)
 have hr2:=hx2.recs k x2 (by rw [List.getElem?_set_self (List.getElem?_eq_some_iff.1 HXX.out).1])
 have HB2:=hid hb2
 have HX2:=hid hx2
 have HR2:=hid hr2
 have HM2:=hid hm2
 have HS2:=hid hs2
 have HI:=hid (And.intro i1 (And.intro i2 (And.intro i3 (And.intro i4 (And.intro i5 i6)))))
 have HRB:=hid (show Blk w2 x.rb 111 x2.cells.toArray from by rw [←i1];exact hr2.blk)
 have y0:w2.cell? ⟨x.rb,0,none⟩=some (.pointer (some ⟨x.lb,0,none⟩)):=by
  have:=hr2.blk.at_ 0
  rw [i1,RA.cells,i2] at this
  exact this
 refine hK.out _ _ ⟨y0,(hb2.at_ 0).trans rfl,(hb2.at_ 1).trans rfl⟩ (fun hHeld1=>?_)
 clear hK K hp hk2 hb2 hx2 hr2 hm2 hs2 i1 i2 i3 i4 i5 i6 i7 i8
 refine pput ?_
 refine wpAnyH_done (by kernel_rfl) ?_ _
 have HNB:=hid (fun j (hj:p.evv.ownBlock=some j)=>show j≠x.rb∧j≠q from by
  have ht:=HX.out.ev.tag j hj
  refine ⟨fun e=>?_,fun e=>?_⟩
  ·rw [e,HR.out.tb] at ht;injection ht with ht;cases ht
  ·have:=HX.out.ev.lt j hj;have:=HQ.out;omega)
 have HNX:=hid (show x.rb≠p.x∧q≠p.x from by
  refine ⟨fun e=>?_,fun e=>?_⟩
  ·have:=HR.out.tb;rw [e,HX.out.tx] at this;injection this with this;cases this
  ·have:=HX.out.hdr.lt;have:=HQ.out;omega)
 have HCA:=hid (fun W (hk:Same w2 W)=>call_any W x2.lb x2.r x2.A x2.c x2.s (HR2.out.line.same hk))
 have HLB:=hid (show x2.lb=x.lb from HI.out.2.1)
 have HCC:=hid (show x2.s.call=x.s.call from by rw [HI.out.2.2.1,HSC.out])
 rw [HLB.out,HCC.out] at HCA
 clear HAS HBd
 go_upto_region 2 with fail
 refine wp_region_held_drew (S:=fun W=>W.cell? ⟨x.rb,0,none⟩=some (.pointer (some ⟨x.lb,0,none⟩))∧W.cell? ⟨q,0,none⟩=some (.int .i64 h1)∧W.cell? ⟨q,1,none⟩=some (.int .i64 h2)) (by kernel_rfl) ⟨((HRB.out.keep (Keep.refl (fun _=>False) _) (fun f=>f)).at_ 0).trans (by rw [RA.cells,HLB.out];rfl),((HB2.out.keep (Keep.refl (fun _=>False) _) (fun f=>f)).at_ 0).trans rfl,((HB2.out.keep (Keep.refl (fun _=>False) _) (fun f=>f)).at_ 1).trans rfl⟩ (fun hHeld=>?_)
 refine tk 0 ?_
 refine tk 1 ?_
 refine tk 2 ?_
 refine tk 3 ?_
 refine tk 5 ?_
 refine tk 6 ?_
 refine tk 7 ?_
 refine tk 8 ?_
 refine tk 9 ?_
 refine tk 11 ?_
 refine tk 12 ?_
 refine tk 13 ?_
 refine tk 14 ?_
 have HXd:=hid (HX2.out.same (Keep.refl (fun _=>False) _).drew)
 clear hHeld
 generalize hwd:w2.drew=wd at *
 have HKwd:=hid (show Same w2 wd from by rw [←hwd];exact (Keep.refl _ _).drew)
 clear hwd
 apply one_restX (F:=fun _ _ _ W=>∃ (v:Value) (T3:Tags) (S3:Nat→Prop),PX W T3 { p with R:=p.R.set k x2,ev:=p.ev++[(⟨3,now,h1,x.s.call,h2,0⟩:Ev)],evv:=v }∧Mv w2 T2 W T3 S3∧∀ i,S3 i→T2 i=some .ev∨T2 i=some .hdr)
 case main =>
  intro REST
  refine wpAnyH_ready (rs:=[4,10]) (by kernel_rfl) (by simp) ?_
  refine AllReadyH.cons rfl (fun K hK=>?_) (AllReadyH.cons rfl (fun K hK=>?_) AllReadyH.nil)
  ·have e21:wd.cell? ⟨p.x,6,none⟩=some (p.evv):=(HXd.out.hdr.at_ 6).trans rfl
   go_simp
   clear e21
   refine hK.out _ _ ⟨((HRB.out.keep HKwd.out (fun f=>f)).at_ 0).trans (by rw [RA.cells,HLB.out];rfl),((HB2.out.keep HKwd.out (fun f=>f)).at_ 0).trans rfl,((HB2.out.keep HKwd.out (fun f=>f)).at_ 1).trans rfl⟩ (fun hHeld21=>?_)
   clear hK K
   refine pput ?_
   refine rd1 10 (fun K hK=>?_)
   go_simp
   (with_reducible refine (HCA.out _ HKwd.out).mono ?_)
   rintro e1 wq ⟨rfl,rfl⟩
   refine hK.out _ _ ⟨((HRB.out.keep HKwd.out (fun f=>f)).at_ 0).trans (by rw [RA.cells,HLB.out];rfl),((HB2.out.keep HKwd.out (fun f=>f)).at_ 0).trans rfl,((HB2.out.keep HKwd.out (fun f=>f)).at_ 1).trans rfl⟩ (fun hHeld22=>?_)
   clear hK K
   refine pput ?_
   refine tk 15 ?_
   refine rd1 16 (fun K hK=>?_)
   go_simp
   have hb23:=Blk.made wd 104 #[.int .i64 3,.int .i64 now,.int .i64 h1,.int .i64 x.s.call,.int .i64 h2,.int .i64 0,.int .i64 0,.int .i64 0,.slice none 0 0,.int .i64 0,.int .i64 0,.int .i64 0,.int .i64 0,.int .i64 0,.int .i64 0,.int .i64 0,.int .i64 0,.int .i64 0,.int .i64 0,.int .i64 0,.int .i64 0,.int .i64 0,.int .i64 0,.int .i64 0,.int .i64 0,.slice none 0 0,.slice none 0 0,.slice none 0 0]
   have hk23:Same wd (wd.alloc (.cells #[.int .i64 3,.int .i64 now,.int .i64 h1,.int .i64 x.s.call,.int .i64 h2,.int .i64 0,.int .i64 0,.int .i64 0,.slice none 0 0,.int .i64 0,.int .i64 0,.int .i64 0,.int .i64 0,.int .i64 0,.int .i64 0,.int .i64 0,.int .i64 0,.int .i64 0,.int .i64 0,.int .i64 0,.int .i64 0,.int .i64 0,.int .i64 0,.int .i64 0,.int .i64 0,.slice none 0 0,.slice none 0 0,.slice none 0 0] 104)):=(Keep.refl _ _).alloc _
   have HX23:=hid (HXd.out.same hk23)
   obtain ⟨g23,hg23⟩:∃ g,g=wd.heap.size:=⟨_,rfl⟩
   rw [←hg23] at hb23 ⊢
   have HKd23:=hid hk23
   clear hg23 hk23
   generalize (wd.alloc (.cells #[.int .i64 3,.int .i64 now,.int .i64 h1,.int .i64 x.s.call,.int .i64 h2,.int .i64 0,.int .i64 0,.int .i64 0,.slice none 0 0,.int .i64 0,.int .i64 0,.int .i64 0,.int .i64 0,.int .i64 0,.int .i64 0,.int .i64 0,.int .i64 0,.int .i64 0,.int .i64 0,.int .i64 0,.int .i64 0,.int .i64 0,.int .i64 0,.int .i64 0,.int .i64 0,.slice none 0 0,.slice none 0 0,.slice none 0 0] 104))=q23 at *
   refine hK.out _ _ ⟨((HRB.out.keep (HKwd.out.then HKd23.out) (fun f=>f)).at_ 0).trans (by rw [RA.cells,HLB.out];rfl),((HB2.out.keep (HKwd.out.then HKd23.out) (fun f=>f)).at_ 0).trans rfl,((HB2.out.keep (HKwd.out.then HKd23.out) (fun f=>f)).at_ 1).trans rfl⟩ (fun hHeld23=>?_)
   clear hK K
   refine pput ?_
   refine rd1 17 (fun K hK=>?_)
   refine EEv.step2 rfl (.tmp 31) (.tmp 43) rfl (p.evv) (some ⟨g23,0,none⟩) 1 1 rfl rfl 0 p.ev.length (p.ev.flatMap Ev.cells) (Ev.cells (⟨3,now,h1,x.s.call,h2,0⟩:Ev)) (p.ev.length+1) ((p.ev++[(⟨3,now,h1,x.s.call,h2,0⟩:Ev)]).flatMap Ev.cells) rfl (by rw [List.flatMap_append,List.flatMap_singleton]) (HX23.out.ev.own) rfl (fun _=>⟨_,rfl,src_blk hb23⟩) (ev_one _) (by omega) (by unfold maxLen;omega) (Nat.zero_le _) (by
    intro A7 c7 w7 ho7 hg7 hw7
    have hgr:=HX23.out.grow_ev hg7 ho7 (own_or hw7) (y:=(⟨3,now,h1,x.s.call,h2,0⟩:Ev))
    have HX7:=hid hgr.1
    have HM7:=hid hgr.2
    have hkq:Keep (fun j=>(p.evv).ownBlock=some j) q23 w7:=(Keep.refl _ _).grown hg7 (fun x e _=>e)
    have hh7:=grow_hdr HX23.out HX23.out.ev hg7 (fun h=>by cases h)
    have c4:w7.cell? ⟨p.x,6,none⟩=some (p.evv):=(hh7.at_ 6).trans rfl
    have f4:=hh7.free 6
    clear ho7 hg7 hw7 hgr
    refine hK.out _ _ ⟨(((HRB.out.keep (HKwd.out.then HKd23.out) (fun f=>f)).keep hkq (fun e=>(HNB.out _ e).1 rfl)).at_ 0).trans (by rw [RA.cells,HLB.out];rfl),(((HB2.out.keep (HKwd.out.then HKd23.out) (fun f=>f)).keep hkq (fun e=>(HNB.out _ e).2 rfl)).at_ 0).trans rfl,(((HB2.out.keep (HKwd.out.then HKd23.out) (fun f=>f)).keep hkq (fun e=>(HNB.out _ e).2 rfl)).at_ 1).trans rfl⟩ (fun hHeld24=>?_)
    clear hK K
    refine pput ?_
    refine tk 18 ?_
    refine tk 19 ?_
    refine rd1 20 (fun K hK=>?_)
    go_simp
    refine hK.out _ _ (let hp7:=(Keep.refl (· = p.x) w7).put 6 _;⟨((((HRB.out.keep (HKwd.out.then HKd23.out) (fun f=>f)).keep hkq (fun e=>(HNB.out _ e).1 rfl)).keep hp7 (fun e=>HNX.out.1 e)).at_ 0).trans (by rw [RA.cells,HLB.out];rfl),((((HB2.out.keep (HKwd.out.then HKd23.out) (fun f=>f)).keep hkq (fun e=>(HNB.out _ e).2 rfl)).keep hp7 (fun e=>HNX.out.2 e)).at_ 0).trans rfl,((((HB2.out.keep (HKwd.out.then HKd23.out) (fun f=>f)).keep hkq (fun e=>(HNB.out _ e).2 rfl)).keep hp7 (fun e=>HNX.out.2 e)).at_ 1).trans rfl⟩) (fun hHeld24=>?_)
    clear hK K
    refine pput ?_
    refine wpAnyH_done (by kernel_rfl) ?_ _
    exact REST A7 c7 g23 _ ⟨_,_,_,HX7.out,((Mv.same (HKwd.out.then HKd23.out) HX2.out.lt).wide (fun _ f=>f.elim)).trans HM7.out (fun _ _ h=>h),grow_tags HX23.out HX23.out.ev⟩)
  ·go_simp
   (with_reducible refine (HCA.out _ HKwd.out).mono ?_)
   rintro e1 wq ⟨rfl,rfl⟩
   refine hK.out _ _ ⟨((HRB.out.keep HKwd.out (fun f=>f)).at_ 0).trans (by rw [RA.cells,HLB.out];rfl),((HB2.out.keep HKwd.out (fun f=>f)).at_ 0).trans rfl,((HB2.out.keep HKwd.out (fun f=>f)).at_ 1).trans rfl⟩ (fun hHeld25=>?_)
   clear hK K
   refine pput ?_
   refine tk 15 ?_
   refine wpAnyH_ready (rs:=[4,16]) (by kernel_rfl) (by simp) ?_
   refine AllReadyH.cons rfl (fun K hK=>?_) (AllReadyH.cons rfl (fun K hK=>?_) AllReadyH.nil)
   ·have e26:wd.cell? ⟨p.x,6,none⟩=some (p.evv):=(HXd.out.hdr.at_ 6).trans rfl
    go_simp
    clear e26
    refine hK.out _ _ ⟨((HRB.out.keep HKwd.out (fun f=>f)).at_ 0).trans (by rw [RA.cells,HLB.out];rfl),((HB2.out.keep HKwd.out (fun f=>f)).at_ 0).trans rfl,((HB2.out.keep HKwd.out (fun f=>f)).at_ 1).trans rfl⟩ (fun hHeld26=>?_)
    clear hK K
    refine pput ?_
    refine rd1 16 (fun K hK=>?_)
    go_simp
    have hb27:=Blk.made wd 104 #[.int .i64 3,.int .i64 now,.int .i64 h1,.int .i64 x.s.call,.int .i64 h2,.int .i64 0,.int .i64 0,.int .i64 0,.slice none 0 0,.int .i64 0,.int .i64 0,.int .i64 0,.int .i64 0,.int .i64 0,.int .i64 0,.int .i64 0,.int .i64 0,.int .i64 0,.int .i64 0,.int .i64 0,.int .i64 0,.int .i64 0,.int .i64 0,.int .i64 0,.int .i64 0,.slice none 0 0,.slice none 0 0,.slice none 0 0]
    have hk27:Same wd (wd.alloc (.cells #[.int .i64 3,.int .i64 now,.int .i64 h1,.int .i64 x.s.call,.int .i64 h2,.int .i64 0,.int .i64 0,.int .i64 0,.slice none 0 0,.int .i64 0,.int .i64 0,.int .i64 0,.int .i64 0,.int .i64 0,.int .i64 0,.int .i64 0,.int .i64 0,.int .i64 0,.int .i64 0,.int .i64 0,.int .i64 0,.int .i64 0,.int .i64 0,.int .i64 0,.int .i64 0,.slice none 0 0,.slice none 0 0,.slice none 0 0] 104)):=(Keep.refl _ _).alloc _
    have HX27:=hid (HXd.out.same hk27)
    obtain ⟨g27,hg27⟩:∃ g,g=wd.heap.size:=⟨_,rfl⟩
    rw [←hg27] at hb27 ⊢
    have HKd27:=hid hk27
    clear hg27 hk27
    generalize (wd.alloc (.cells #[.int .i64 3,.int .i64 now,.int .i64 h1,.int .i64 x.s.call,.int .i64 h2,.int .i64 0,.int .i64 0,.int .i64 0,.slice none 0 0,.int .i64 0,.int .i64 0,.int .i64 0,.int .i64 0,.int .i64 0,.int .i64 0,.int .i64 0,.int .i64 0,.int .i64 0,.int .i64 0,.int .i64 0,.int .i64 0,.int .i64 0,.int .i64 0,.int .i64 0,.int .i64 0,.slice none 0 0,.slice none 0 0,.slice none 0 0] 104))=q27 at *
    refine hK.out _ _ ⟨((HRB.out.keep (HKwd.out.then HKd27.out) (fun f=>f)).at_ 0).trans (by rw [RA.cells,HLB.out];rfl),((HB2.out.keep (HKwd.out.then HKd27.out) (fun f=>f)).at_ 0).trans rfl,((HB2.out.keep (HKwd.out.then HKd27.out) (fun f=>f)).at_ 1).trans rfl⟩ (fun hHeld27=>?_)
    clear hK K
    refine pput ?_
    refine rd1 17 (fun K hK=>?_)
    refine EEv.step2 rfl (.tmp 31) (.tmp 43) rfl (p.evv) (some ⟨g27,0,none⟩) 1 1 rfl rfl 0 p.ev.length (p.ev.flatMap Ev.cells) (Ev.cells (⟨3,now,h1,x.s.call,h2,0⟩:Ev)) (p.ev.length+1) ((p.ev++[(⟨3,now,h1,x.s.call,h2,0⟩:Ev)]).flatMap Ev.cells) rfl (by rw [List.flatMap_append,List.flatMap_singleton]) (HX27.out.ev.own) rfl (fun _=>⟨_,rfl,src_blk hb27⟩) (ev_one _) (by omega) (by unfold maxLen;omega) (Nat.zero_le _) (by
     intro A7 c7 w7 ho7 hg7 hw7
     have hgr:=HX27.out.grow_ev hg7 ho7 (own_or hw7) (y:=(⟨3,now,h1,x.s.call,h2,0⟩:Ev))
     have HX7:=hid hgr.1
     have HM7:=hid hgr.2
     have hkq:Keep (fun j=>(p.evv).ownBlock=some j) q27 w7:=(Keep.refl _ _).grown hg7 (fun x e _=>e)
     have hh7:=grow_hdr HX27.out HX27.out.ev hg7 (fun h=>by cases h)
     have c4:w7.cell? ⟨p.x,6,none⟩=some (p.evv):=(hh7.at_ 6).trans rfl
     have f4:=hh7.free 6
     clear ho7 hg7 hw7 hgr
     refine hK.out _ _ ⟨(((HRB.out.keep (HKwd.out.then HKd27.out) (fun f=>f)).keep hkq (fun e=>(HNB.out _ e).1 rfl)).at_ 0).trans (by rw [RA.cells,HLB.out];rfl),(((HB2.out.keep (HKwd.out.then HKd27.out) (fun f=>f)).keep hkq (fun e=>(HNB.out _ e).2 rfl)).at_ 0).trans rfl,(((HB2.out.keep (HKwd.out.then HKd27.out) (fun f=>f)).keep hkq (fun e=>(HNB.out _ e).2 rfl)).at_ 1).trans rfl⟩ (fun hHeld28=>?_)
     clear hK K
     refine pput ?_
     refine tk 18 ?_
     refine tk 19 ?_
     refine rd1 20 (fun K hK=>?_)
     go_simp
     refine hK.out _ _ (let hp7:=(Keep.refl (· = p.x) w7).put 6 _;⟨((((HRB.out.keep (HKwd.out.then HKd27.out) (fun f=>f)).keep hkq (fun e=>(HNB.out _ e).1 rfl)).keep hp7 (fun e=>HNX.out.1 e)).at_ 0).trans (by rw [RA.cells,HLB.out];rfl),((((HB2.out.keep (HKwd.out.then HKd27.out) (fun f=>f)).keep hkq (fun e=>(HNB.out _ e).2 rfl)).keep hp7 (fun e=>HNX.out.2 e)).at_ 0).trans rfl,((((HB2.out.keep (HKwd.out.then HKd27.out) (fun f=>f)).keep hkq (fun e=>(HNB.out _ e).2 rfl)).keep hp7 (fun e=>HNX.out.2 e)).at_ 1).trans rfl⟩) (fun hHeld28=>?_)
     clear hK K
     refine pput ?_
     refine wpAnyH_done (by kernel_rfl) ?_ _
     exact REST A7 c7 g27 _ ⟨_,_,_,HX7.out,((Mv.same (HKwd.out.then HKd27.out) HX2.out.lt).wide (fun _ f=>f.elim)).trans HM7.out (fun _ _ h=>h),grow_tags HX27.out HX27.out.ev⟩)
   ·go_simp
    have hb29:=Blk.made wd 104 #[.int .i64 3,.int .i64 now,.int .i64 h1,.int .i64 x.s.call,.int .i64 h2,.int .i64 0,.int .i64 0,.int .i64 0,.slice none 0 0,.int .i64 0,.int .i64 0,.int .i64 0,.int .i64 0,.int .i64 0,.int .i64 0,.int .i64 0,.int .i64 0,.int .i64 0,.int .i64 0,.int .i64 0,.int .i64 0,.int .i64 0,.int .i64 0,.int .i64 0,.int .i64 0,.slice none 0 0,.slice none 0 0,.slice none 0 0]
    have hk29:Same wd (wd.alloc (.cells #[.int .i64 3,.int .i64 now,.int .i64 h1,.int .i64 x.s.call,.int .i64 h2,.int .i64 0,.int .i64 0,.int .i64 0,.slice none 0 0,.int .i64 0,.int .i64 0,.int .i64 0,.int .i64 0,.int .i64 0,.int .i64 0,.int .i64 0,.int .i64 0,.int .i64 0,.int .i64 0,.int .i64 0,.int .i64 0,.int .i64 0,.int .i64 0,.int .i64 0,.int .i64 0,.slice none 0 0,.slice none 0 0,.slice none 0 0] 104)):=(Keep.refl _ _).alloc _
    have HX29:=hid (HXd.out.same hk29)
    obtain ⟨g29,hg29⟩:∃ g,g=wd.heap.size:=⟨_,rfl⟩
    rw [←hg29] at hb29 ⊢
    have HKd29:=hid hk29
    clear hg29 hk29
    generalize (wd.alloc (.cells #[.int .i64 3,.int .i64 now,.int .i64 h1,.int .i64 x.s.call,.int .i64 h2,.int .i64 0,.int .i64 0,.int .i64 0,.slice none 0 0,.int .i64 0,.int .i64 0,.int .i64 0,.int .i64 0,.int .i64 0,.int .i64 0,.int .i64 0,.int .i64 0,.int .i64 0,.int .i64 0,.int .i64 0,.int .i64 0,.int .i64 0,.int .i64 0,.int .i64 0,.int .i64 0,.slice none 0 0,.slice none 0 0,.slice none 0 0] 104))=q29 at *
    refine hK.out _ _ ⟨((HRB.out.keep (HKwd.out.then HKd29.out) (fun f=>f)).at_ 0).trans (by rw [RA.cells,HLB.out];rfl),((HB2.out.keep (HKwd.out.then HKd29.out) (fun f=>f)).at_ 0).trans rfl,((HB2.out.keep (HKwd.out.then HKd29.out) (fun f=>f)).at_ 1).trans rfl⟩ (fun hHeld29=>?_)
    clear hK K
    refine pput ?_
    refine rd1 4 (fun K hK=>?_)
    have e30:q29.cell? ⟨p.x,6,none⟩=some (p.evv):=(HX29.out.hdr.at_ 6).trans rfl
    go_simp
    clear e30
    refine hK.out _ _ ⟨((HRB.out.keep (HKwd.out.then HKd29.out) (fun f=>f)).at_ 0).trans (by rw [RA.cells,HLB.out];rfl),((HB2.out.keep (HKwd.out.then HKd29.out) (fun f=>f)).at_ 0).trans rfl,((HB2.out.keep (HKwd.out.then HKd29.out) (fun f=>f)).at_ 1).trans rfl⟩ (fun hHeld30=>?_)
    clear hK K
    refine pput ?_
    refine rd1 17 (fun K hK=>?_)
    refine EEv.step2 rfl (.tmp 31) (.tmp 43) rfl (p.evv) (some ⟨g29,0,none⟩) 1 1 rfl rfl 0 p.ev.length (p.ev.flatMap Ev.cells) (Ev.cells (⟨3,now,h1,x.s.call,h2,0⟩:Ev)) (p.ev.length+1) ((p.ev++[(⟨3,now,h1,x.s.call,h2,0⟩:Ev)]).flatMap Ev.cells) rfl (by rw [List.flatMap_append,List.flatMap_singleton]) (HX29.out.ev.own) rfl (fun _=>⟨_,rfl,src_blk hb29⟩) (ev_one _) (by omega) (by unfold maxLen;omega) (Nat.zero_le _) (by
     intro A7 c7 w7 ho7 hg7 hw7
     have hgr:=HX29.out.grow_ev hg7 ho7 (own_or hw7) (y:=(⟨3,now,h1,x.s.call,h2,0⟩:Ev))
     have HX7:=hid hgr.1
     have HM7:=hid hgr.2
     have hkq:Keep (fun j=>(p.evv).ownBlock=some j) q29 w7:=(Keep.refl _ _).grown hg7 (fun x e _=>e)
     have hh7:=grow_hdr HX29.out HX29.out.ev hg7 (fun h=>by cases h)
     have c4:w7.cell? ⟨p.x,6,none⟩=some (p.evv):=(hh7.at_ 6).trans rfl
     have f4:=hh7.free 6
     clear ho7 hg7 hw7 hgr
     refine hK.out _ _ ⟨(((HRB.out.keep (HKwd.out.then HKd29.out) (fun f=>f)).keep hkq (fun e=>(HNB.out _ e).1 rfl)).at_ 0).trans (by rw [RA.cells,HLB.out];rfl),(((HB2.out.keep (HKwd.out.then HKd29.out) (fun f=>f)).keep hkq (fun e=>(HNB.out _ e).2 rfl)).at_ 0).trans rfl,(((HB2.out.keep (HKwd.out.then HKd29.out) (fun f=>f)).keep hkq (fun e=>(HNB.out _ e).2 rfl)).at_ 1).trans rfl⟩ (fun hHeld31=>?_)
     clear hK K
     refine pput ?_
     refine tk 18 ?_
     refine tk 19 ?_
     refine rd1 20 (fun K hK=>?_)
     go_simp
     refine hK.out _ _ (let hp7:=(Keep.refl (· = p.x) w7).put 6 _;⟨((((HRB.out.keep (HKwd.out.then HKd29.out) (fun f=>f)).keep hkq (fun e=>(HNB.out _ e).1 rfl)).keep hp7 (fun e=>HNX.out.1 e)).at_ 0).trans (by rw [RA.cells,HLB.out];rfl),((((HB2.out.keep (HKwd.out.then HKd29.out) (fun f=>f)).keep hkq (fun e=>(HNB.out _ e).2 rfl)).keep hp7 (fun e=>HNX.out.2 e)).at_ 0).trans rfl,((((HB2.out.keep (HKwd.out.then HKd29.out) (fun f=>f)).keep hkq (fun e=>(HNB.out _ e).2 rfl)).keep hp7 (fun e=>HNX.out.2 e)).at_ 1).trans rfl⟩) (fun hHeld31=>?_)
     clear hK K
     refine pput ?_
     refine wpAnyH_done (by kernel_rfl) ?_ _
     exact REST A7 c7 g29 _ ⟨_,_,_,HX7.out,((Mv.same (HKwd.out.then HKd29.out) HX2.out.lt).wide (fun _ f=>f.elim)).trans HM7.out (fun _ _ h=>h),grow_tags HX29.out HX29.out.ev⟩)
 case rest =>
  intro A7 c7 g7 v1 hF
  obtain ⟨v9,T3,S3,hx3,hm3,ht3⟩:=hF
  have hlk:=(List.getElem?_eq_some_iff.1 HXX.out).1
  have hof:=offer_any hx3 (k:=k) (x:=x2) (by rw [List.getElem?_set_self hlk]) (by simp only [RA.pt,HI.out.2.2.1,HI.out.2.2.2.1,HI.out.2.2.2.2.1,HI.out.2.2.2.2.2];exact HLO.out) hn now
  rw [HI.out.1] at hof
  have HOF:=hid hof
  have HM3:=hid hm3
  have HT3:=hid ht3
  clear hx3 hm3 ht3 hof
  go_wp2_with (go_at_call 46;(with_reducible refine HOF.out.mono ?_);rintro e w3 ⟨rfl,hP⟩;have HP:=hid hP;clear hP)
  go_end0
  have hm4:=(Mv.same HKd.out HX.out.lt).comp (fun _ f=>f.elim) HM2.out (fun i hi=>by rcases HS2.out i hi with e | e <;> exact Tags.on_of e (fun h=>by cases h))
  have hm5:=hm4.comp (fun _ h=>h) HM3.out (tags_on HT3.out (fun h=>by cases h))
  refine ⟨rfl,?_⟩
  rw [HBI.out]
  have:=PP.after hm5 (fun _ h=>h) HP.out
  have e8:(({ p with R:=p.R.set k x2,ev:=p.ev++[⟨3,now,h1,x.s.call,h2,0⟩],evv:=v9 }:PS).pt.offer k x2.pt now)=((p.pt.put k { x.pt with s:=s2 }).evt ⟨3,now,h1,x.s.call,h2,0⟩).offer k { x.pt with s:=s2 } now:=by
   have hx2:x2.pt={ x.pt with s:=s2 }:=by simp only [RA.pt,HI.out.2.2.1,HI.out.2.2.2.1,HI.out.2.2.2.2.1,HI.out.2.2.2.2.2]
   rw [hx2]
   simp [PS.pt,XS.put,XS.evt,XS.offer,List.map_set,hx2]
  rw [←e8]
  exact this
theorem lines_at {w:World} {T:Tags} {p:PS} (h:PX w T p) {k:Nat} {x:RA} (hx:p.R[k]? = some x):∃ b off c,p.lv=.slice (some ⟨b,off,none⟩) p.R.length c∧b<w.heap.size∧T b=some .lines∧w.cell? ⟨b,off+k,none⟩=some (.pointer (some ⟨x.rb,0,none⟩)):=by
 have hk:=(List.getElem?_eq_some_iff.1 hx).1
 obtain ⟨A,c,hv⟩:=h.lines.own.shape
 have ho:=h.lines.own
 rw [hv] at ho
 obtain ⟨b,off,e,hb,_,hr⟩:=(ho.sl (Av:=fun _=>False) (fun _ _ f=>f)).at_ (by omega)
 subst e
 exact ⟨b,off,c,hv,hb,h.lines.tag b (by rw [hv];rfl),hr k _ (by rw [List.getElem?_map,hx];rfl)⟩
def idx (n:Nat) (call:Int):Option Nat:=if 1≤call∧call≤n then some (call - 1).toNat else none
theorem idx_some {n:Nat} {call:Int} {k:Nat} (h:idx n call=some k):call=(k:Int)+1∧k<n:=by
 unfold idx at h
 split at h
 ·injection h with h;omega
 ·cases h
theorem idx_none {n:Nat} {call:Int} (h:idx n call=none):call<1∨(n:Int)<call:=by
 unfold idx at h
 split at h
 ·cases h
 ·omega
section
variable {w:World} {T:Tags} {p:PS}
theorem find_some (h:PX w T p) {call:Int} {k:Nat} {x:RA} (hx:p.R[k]? = some x) (hc:call=(k:Int)+1) (hl:p.R.length≤1000000) :
 Calls Tryz.prog 38 #[.pointer (some ⟨p.x,0,none⟩),.int .i64 call] w (BPost w (.pointer (some ⟨x.rb,0,none⟩))):=by
 obtain ⟨b,off,c,hv,hb,_,y⟩:=lines_at h hx
 have c4:w.cell? ⟨p.x,4,none⟩=some p.lv:=(h.hdr.at_ 4).trans rfl
 rw [hv] at c4
 have hk:=(List.getElem?_eq_some_iff.1 hx).1
 subst hc
 have hk0:(0:Int)≤(k:Int):=Int.natCast_nonneg _
 have hk1:(k:Int)<(p.R.length:Int):=by omega
 have d1:decide ((k:Int)+1<1)=false:=decide_eq_false (by omega)
 have d2:decide ((p.R.length:Int)<(k:Int)+1)=false:=decide_eq_false (by omega)
 have e1:(k:Int)+1 - 1=(k:Int):=by omega
 clear h hx hv
 go_enter Tryz.func38,Tryz.ntmps38
 go_wp2_with fail
 go_ret
 exact ⟨rfl,rfl⟩
theorem find_none (h:PX w T p) {call:Int} (hc:call<1∨(p.R.length:Int)<call) (_hl:p.R.length≤1000000) :
 Calls Tryz.prog 38 #[.pointer (some ⟨p.x,0,none⟩),.int .i64 call] w (BPost w (.pointer none)):=by
 obtain ⟨A,c,hv⟩:=h.lines.own.shape
 have c4:w.cell? ⟨p.x,4,none⟩=some p.lv:=(h.hdr.at_ 4).trans rfl
 rw [hv] at c4
 clear h hv
 by_cases d:call<1
 ·have d1:decide (call<1)=true:=decide_eq_true d
  go_enter Tryz.func38,Tryz.ntmps38
  go_wp2_with fail
  go_ret
  exact ⟨rfl,rfl⟩
 ·have d1:decide (call<1)=false:=decide_eq_false d
  have d2:decide ((p.R.length:Int)<call)=true:=decide_eq_true (by omega)
  go_enter Tryz.func38,Tryz.ntmps38
  go_wp2_with fail
  go_ret
  exact ⟨rfl,rfl⟩
theorem findX (h:PX w T p) (call:Int) (hl:p.R.length≤1000000):Calls Tryz.prog 38 #[.pointer (some ⟨p.x,0,none⟩),.int .i64 call] w (BPost w (match idx p.R.length call with | none=>.pointer none | some k=>match p.R[k]? with | some x=>.pointer (some ⟨x.rb,0,none⟩) | none=>.pointer none)):=by
 cases hi:idx p.R.length call with
 | none=>exact find_none h (idx_none hi) hl
 | some k =>
   obtain ⟨h1,h2⟩:=idx_some hi
   obtain ⟨x,hx⟩:=get_some h2
   simp only [hx]
   exact find_some h hx h1 hl
set_option maxRecDepth 100000 in
theorem stateX_none (h:PX w T p) {call:Int} (hi:idx p.R.length call=none) (hl:p.R.length≤1000000) :
 Calls Tryz.prog 19 #[.pointer (some ⟨p.x,0,none⟩),.int .i64 call] w (BPost w (.int .i64 0)):=by
 have HF:=hid (find_none h (idx_none hi) hl)
 clear h hi
 go_enter Tryz.func19,Tryz.ntmps19
 go_wp2_with (go_at_call 38;(with_reducible refine HF.out.mono ?_);rintro e w1 ⟨rfl,rfl⟩)
 go_ret
 exact ⟨rfl,rfl⟩
set_option maxRecDepth 100000 in
theorem stateX_some (h:PX w T p) {call:Int} {k:Nat} {x:RA} (hi:idx p.R.length call=some k) (hx:p.R[k]? = some x) (hl:p.R.length≤1000000) :
 Calls Tryz.prog 19 #[.pointer (some ⟨p.x,0,none⟩),.int .i64 call] w (BPost w (.int .i64 x.s.st)):=by
 have HF:=hid (find_some h hx (idx_some hi).1 hl)
 have hr:=h.recs k x hx
 have z0:w.cell? ⟨x.rb,0,none⟩=some (.pointer (some ⟨x.lb,0,none⟩)):=(hr.blk.at_ 0).trans rfl
 have HL:=hid hr.line
 clear h hi hx hr
 go_enter Tryz.func19,Tryz.ntmps19
 go_wp2_with (first
  | (go_at_call 38;(with_reducible refine HF.out.mono ?_);rintro e w1 ⟨rfl,rfl⟩)
  | (go_at_call 39;(with_reducible refine (state_any _ _ _ _ _ _ HL.out).mono ?_);rintro e w1 ⟨rfl,rfl⟩))
 go_ret
 exact ⟨rfl,rfl⟩
set_option maxRecDepth 100000 in
theorem ownerX_none (h:PX w T p) {call:Int} (hi:idx p.R.length call=none) (hl:p.R.length≤1000000) :
 Calls Tryz.prog 31 #[.pointer (some ⟨p.x,0,none⟩),.int .i64 call] w (BPost w (.tuple #[.int .i64 0,.int .i64 0,.bool false])):=by
 have HF:=hid (find_none h (idx_none hi) hl)
 clear h hi
 go_enter Tryz.func31,Tryz.ntmps31
 go_wp2_with (go_at_call 38;(with_reducible refine HF.out.mono ?_);rintro e w1 ⟨rfl,rfl⟩)
 go_ret3
 exact ⟨rfl,rfl⟩
set_option maxRecDepth 100000 in
theorem ownerX_some (h:PX w T p) {call:Int} {k:Nat} {x:RA} (hi:idx p.R.length call=some k) (hx:p.R[k]? = some x) (hl:p.R.length≤1000000) :
 Calls Tryz.prog 31 #[.pointer (some ⟨p.x,0,none⟩),.int .i64 call] w (fun e w'=>e=.returned (.tuple #[.int .i64 x.s.cen,.int .i64 x.s.ep,.bool true])∧Same w w'):=by
 have HF:=hid (find_some h hx (idx_some hi).1 hl)
 have hr:=h.recs k x hx
 have z0:w.cell? ⟨x.rb,0,none⟩=some (.pointer (some ⟨x.lb,0,none⟩)):=(hr.blk.at_ 0).trans rfl
 have HL:=hid hr.line
 clear h hi hx hr
 go_enter Tryz.func31,Tryz.ntmps31
 go_wp2_with (first
  | (go_at_call 38;(with_reducible refine HF.out.mono ?_);rintro e w1 ⟨rfl,rfl⟩)
  | (go_at_call 40;(with_reducible refine (owner_any _ _ _ _ _ _ HL.out).mono ?_);rintro e w1 ⟨rfl,hk1⟩;have HK1:=hid hk1;clear hk1))
 go_ret3
 exact ⟨rfl,HK1.out⟩
def NI (w:World) (l:List Int) (e:Ending) (w':World):Prop:=∃ A c,e=.returned (.slice A l.length c)∧Sl w' (· < w.heap.size) 1 A l.length (icells l)∧Same w w'
set_option maxRecDepth 100000 in
theorem answersX_none (h:PX w T p) {call:Int} (hi:idx p.R.length call=none) (hl:p.R.length≤1000000) :
 Calls Tryz.prog 21 #[.pointer (some ⟨p.x,0,none⟩),.int .i64 call] w (NI w []):=by
 have HF:=hid (find_none h (idx_none hi) hl)
 clear h hi
 go_enter Tryz.func21,Tryz.ntmps21
 go_wp2_with (go_at_call 38;(with_reducible refine HF.out.mono ?_);rintro e w1 ⟨rfl,rfl⟩)
 go_ret
 exact ⟨none,0,rfl,Sl.nil _ _ _ _,Keep.refl _ _⟩
set_option maxRecDepth 100000 in
theorem answersX_some (h:PX w T p) {call:Int} {k:Nat} {x:RA} (hi:idx p.R.length call=some k) (hx:p.R[k]? = some x) (hl:p.R.length≤1000000) (ha:x.s.ans.length≤1000) :
 Calls Tryz.prog 21 #[.pointer (some ⟨p.x,0,none⟩),.int .i64 call] w (NI w x.s.ans):=by
 have HF:=hid (find_some h hx (idx_some hi).1 hl)
 have hr:=h.recs k x hx
 have z0:w.cell? ⟨x.rb,0,none⟩=some (.pointer (some ⟨x.lb,0,none⟩)):=(hr.blk.at_ 0).trans rfl
 have HAN:=hid (answers_any w x.lb x.r x.A x.c x.s hr.line hr.line ha)
 unfold CopyPost at HAN
 clear h hi hx hr
 go_enter Tryz.func21,Tryz.ntmps21
 go_wp2_with (first
  | (go_at_call 38;(with_reducible refine HF.out.mono ?_);rintro e w1 ⟨rfl,rfl⟩)
  | (go_at_call 45;(with_reducible refine (HAN.out).mono ?_);rintro e w1 ⟨B,d,rfl,hs1,hk1⟩;have HS1:=hid hs1;have HK1:=hid hk1;clear hs1 hk1)
  | (at_builtin
     refine EIn.law2 (.const (.slice none 0 0)) (.tmp 15) (.slice none 0 0) B x.s.ans.length d rfl rfl rfl rfl w1.heap.size 0 [] (icells x.s.ans) x.s.ans.length _ (Nat.zero_add _) rfl (Own.nil _ _ _ _) (by rw [icells_len];omega) (HS1.out.src (Keep.refl (fun _=>False) _)) (icells_one _) (by omega) (by unfold maxLen;omega) (Nat.le_refl _) ?_
     intro A2 c2 w2 ho hg hw
     have HK2:=hid ((Keep.refl (fun _=>False) w1).app (Own.nil w1 w1.heap.size 3 1) hg (fun g h1 h2=>by omega))
     have HO:=hid ho
     clear ho hg hw))
 go_ret
 exact ⟨A2,c2,rfl,HO.out.sl (fun g hg=>by have:=HK1.out.size;omega),HK1.out.then HK2.out⟩
set_option maxRecDepth 100000 in
theorem holderX (h:PX w T p) {d:Nat} {a:Int × Int} (ha:p.hold[d]? = some a) (_hl:p.hold.length≤1000000) :
 Calls Tryz.prog 32 #[.pointer (some ⟨p.x,0,none⟩),.int .i64 d] w fun e w'=>e=.returned (.tuple #[.int .i64 a.1,.int .i64 a.2])∧Same w w':=by
 obtain ⟨hb,off,hc,hv,hbl,hbt,y0,y1⟩:=holds_at h ha
 have c3:w.cell? ⟨p.x,3,none⟩=some p.hv:=(h.hdr.at_ 3).trans rfl
 rw [hv] at c3
 have hdl:=(List.getElem?_eq_some_iff.1 ha).1
 have hpx:=h.hdr.lt
 have hdi:(d:Int)<(p.hold.length:Int):=by omega
 have hd0:(0:Int)≤(d:Int):=Int.natCast_nonneg _
 have d1:decide ((d:Int)<0)=false:=decide_eq_false (by omega)
 have d2:decide (p.hold.length≤d)=false:=decide_eq_false (by omega)
 clear h ha hv hbt
 go_enter Tryz.func32,Tryz.ntmps32
 go_wp2_with fail
 go_quiet (fail)
 go_wp2_with fail
 go_ret2
 exact ⟨rfl,(Keep.refl _ _).drewN _⟩
set_option maxRecDepth 100000 in
theorem holderX_no (h:PX w T p) {d:Int} (hd:d<0∨(p.hold.length:Int)≤d) (_hl:p.hold.length≤1000000) :
 Calls Tryz.prog 32 #[.pointer (some ⟨p.x,0,none⟩),.int .i64 d] w (BPost w (.tuple #[.int .i64 (-1),.int .i64 0])):=by
 obtain ⟨A,c,hv⟩:=h.hold.own.shape
 have c3:w.cell? ⟨p.x,3,none⟩=some p.hv:=(h.hdr.at_ 3).trans rfl
 rw [hv] at c3
 clear h hv
 by_cases g:d<0
 ·have d1:decide (d<0)=true:=decide_eq_true g
  go_enter Tryz.func32,Tryz.ntmps32
  go_wp2_with fail
  go_ret2
  exact ⟨rfl,rfl⟩
 ·have d1:decide (d<0)=false:=decide_eq_false g
  have d2:decide ((p.hold.length:Int)≤d)=true:=decide_eq_true (by omega)
  go_enter Tryz.func32,Tryz.ntmps32
  go_wp2_with fail
  go_ret2
  exact ⟨rfl,rfl⟩
theorem outboxX (h:PX w T p):Calls Tryz.prog 12 #[.pointer (some ⟨p.x,0,none⟩)] w fun e w'=>e=.returned p.ov∧w'=w.setCell ⟨p.x,5,none⟩ (.slice none 0 0):=by
 have c5:w.cell? ⟨p.x,5,none⟩=some p.ov:=(h.hdr.at_ 5).trans rfl
 have f5:=h.hdr.free 5
 clear h
 go_enter Tryz.func12,Tryz.ntmps12
 go_wp2_with fail
 go_ret
 exact ⟨rfl,rfl⟩
theorem eventsX (h:PX w T p):Calls Tryz.prog 14 #[.pointer (some ⟨p.x,0,none⟩)] w fun e w'=>e=.returned p.evv∧w'=w.setCell ⟨p.x,6,none⟩ (.slice none 0 0):=by
 have c5:w.cell? ⟨p.x,6,none⟩=some p.evv:=(h.hdr.at_ 6).trans rfl
 have f5:=h.hdr.free 6
 clear h
 go_enter Tryz.func14,Tryz.ntmps14
 go_wp2_with fail
 go_ret
 exact ⟨rfl,rfl⟩
end
end Go.Proofs.YtbjddfiledoaoaaGreat

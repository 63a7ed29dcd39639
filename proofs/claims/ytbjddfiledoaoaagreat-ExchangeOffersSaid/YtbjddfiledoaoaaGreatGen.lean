import Derived.Test.YtbjddfiledoaoaaGreatRows
import Derived.WalkKit
import Derived.WalkSpells
import Derived.WalkLawsBesides
import Derived.Deep.QuietTactic
import Derived.BigQuiet
import Derived.Handy
import Derived.Laws.Rows
import Derived.Laws.OwnMore
import Derived.ProofKit
import Derived.SizedLaws
import Derived.OpenShut
import Derived.Deep.Slices
namespace Go.Proofs.YtbjddfiledoaoaaGreat
open Go.RowKit
theorem hid {p:Prop} (h:p):Hid p:=h
def Blk (w:World) (g:Nat) (t:TypeId) (cs:Array Value):Prop:=w.heap[g]? = some (.cells cs t (0,0))
structure Keep (S:Nat→Prop) (a w:World):Prop where
 os:w.os=a.os
 tape:w.tape=a.tape
 output:w.output=a.output
 size:a.heap.size≤w.heap.size
 block:∀ k,k<a.heap.size→¬S k→w.heap[k]? = a.heap[k]?
abbrev Same (a w:World):Prop:=Keep (fun _=>False) a w
section
variable {S T:Nat→Prop} {a b c w w':World}
theorem Keep.refl (S:Nat→Prop) (w:World):Keep S w w:=⟨rfl,rfl,rfl,Nat.le_refl _,fun _ _ _=>rfl⟩
theorem Keep.trans (h:Keep S a b) (k:Keep T b c) (hS:∀ i,i<a.heap.size→T i→S i):Keep S a c :=
 ⟨k.os.trans h.os,k.tape.trans h.tape,k.output.trans h.output,Nat.le_trans h.size k.size,fun i hi hn =>
  (k.block i (Nat.lt_of_lt_of_le hi h.size) (fun ht=>hn (hS i hi ht))).trans (h.block i hi hn)⟩
theorem Keep.then (h:Keep S a b) (k:Same b c):Keep S a c:=h.trans k (fun _ _ f=>f.elim)
theorem Keep.wide (h:Keep S a b) (hS:∀ i,i<a.heap.size→S i→T i):Keep T a b :=
 ⟨h.os,h.tape,h.output,h.size,fun i hi hn=>h.block i hi (fun hs=>hn (hS i hi hs))⟩
theorem Keep.alloc (h:Keep S a w) (o:Obj):Keep S a (w.alloc o) :=
 ⟨h.os,h.tape,h.output,Nat.le_trans h.size (by simp),fun i hi hn=>(Below.heap_alloc w o i (Nat.lt_of_lt_of_le hi h.size)).trans (h.block i hi hn)⟩
theorem Keep.setCell (h:Keep S a w) {p:Addr} (hp:p.block<a.heap.size→S p.block) (u:Value):Keep S a (w.setCell p u) :=
 ⟨h.os,h.tape,h.output,by simpa [World.setCell] using h.size,fun i hi hn=>(Below.heap_setCell w p u i (by
  rintro rfl;exact hn (hp hi))).trans (h.block i hi hn)⟩
theorem Keep.put {g:Nat} (h:Keep (· = g) a w) (o:Nat) (u:Value):Keep (· = g) a (w.setCell ⟨g,o,none⟩ u):=h.setCell (fun _=>rfl) u
theorem Keep.drew (h:Keep S a w):Keep S a w.drew:=⟨h.os,h.tape,h.output,h.size,h.block⟩
theorem Keep.drewN (h:Keep S a w) (n:Nat):Keep S a (w.drewN n):=⟨h.os,h.tape,h.output,h.size,h.block⟩
theorem Keep.grown {row:Option Nat} (h:Keep S a w) (hg:w.grownBy w' row) (hr:∀ g,row=some g→g<a.heap.size→S g):Keep S a w' :=
 ⟨hg.os.trans h.os,hg.tape.trans h.tape,hg.output.trans h.output,Nat.le_trans h.size hg.size,fun i hi hn =>
  (hg.block i (Nat.lt_of_lt_of_le hi h.size) (fun e=>hn (hr i e.symm hi))).trans (h.block i hi hn)⟩
theorem Keep.below (h:Same a w):Below a.heap.size a w:=⟨h.os,h.tape,h.output,h.size,fun k hk=>h.block k hk (fun f=>f)⟩
theorem Keep.cell (h:Keep S a w) {p:Addr} (hp:p.block<a.heap.size) (hn:¬S p.block):w.cell? p=a.cell? p:=World.cell?_of_block (w:=a) (h.block _ hp hn)
end
section
variable {S:Nat→Prop} {w w':World} {g:Nat} {t:TypeId} {cs:Array Value}
theorem Blk.lt (h:Blk w g t cs):g<w.heap.size:=by
 rcases Nat.lt_or_ge g w.heap.size with hl | hl
 ·exact hl
 ·rw [Blk,Array.getElem?_eq_none hl] at h;cases h
theorem Blk.at_ (h:Blk w g t cs) (i:Nat):w.cell? ⟨g,i,none⟩=cs[i]?:=cell_of_row w g i cs t (0,0) h
theorem Blk.free (h:Blk w g t cs) (i:Nat):w.frozen? ⟨g,i,none⟩=false:=by
 rw [Blk] at h;simp [World.frozen?,h]
theorem Blk.made (w:World) (t:TypeId) (cs:Array Value):Blk (w.alloc (.cells cs t)) w.heap.size t cs:=heap_alloc_new w _
theorem Blk.keep (h:Blk w g t cs) (hk:Keep S w w') (hn:¬S g):Blk w' g t cs:=(hk.block g h.lt hn).trans h
theorem Blk.drew (h:Blk w g t cs):Blk w.drew g t cs:=h
theorem Blk.drewN (h:Blk w g t cs) (n:Nat):Blk (w.drewN n) g t cs:=h
theorem Blk.alloc (h:Blk w g t cs) (o:Obj):Blk (w.alloc o) g t cs:=(Below.heap_alloc w o g h.lt).trans h
theorem Blk.put (h:Blk w g t cs) (i:Nat) (u:Value):Blk (w.setCell ⟨g,i,none⟩ u) g t (cs.setIfInBounds i u):=by
 rw [Blk] at h ⊢;simp [World.setCell,Array.getElem?_modify,h]
theorem Blk.far (h:Blk w g t cs) {p:Addr} (hp:g≠p.block) (u:Value):Blk (w.setCell p u) g t cs:=(Below.heap_setCell w p u g hp).trans h
end
def Row (w:World) (b off:Nat) (cs:List Value):Prop:=∀ j u,cs[j]? = some u→w.cell? ⟨b,off+j,none⟩=some u
theorem Row.keep {S:Nat→Prop} {w w':World} {b off:Nat} {cs:List Value} (h:Row w b off cs) (hk:Keep S w w') (hb:b<w.heap.size) (hn:¬S b):Row w' b off cs :=
 fun j u hu=>(hk.cell (p:=⟨b,off+j,none⟩) hb hn).trans (h j u hu)
theorem Row.of_blk {w:World} {g:Nat} {t:TypeId} {cs:Array Value} (h:Blk w g t cs):Row w g 0 cs.toList:=by
 intro j u hu
 rw [Nat.zero_add,h.at_]
 simpa using hu
theorem flat_get {α β:Type} (f:α→List β) (k:Nat) (hf:∀ a,(f a).length=k):∀ (l:List α) (i j:Nat),j<k→(l.flatMap f)[i * k+j]? = (l[i]?).bind (fun a=>(f a)[j]?)
 | [],i,j,_=>by simp
 | a :: l,0,j,hj=>by
   rw [List.flatMap_cons,List.getElem?_append_left (by rw [hf];omega)];simp
 | a :: l,i+1,j,hj=>by
   rw [List.flatMap_cons,List.getElem?_append_right (by rw [hf,Nat.succ_mul];omega),hf]
   have e:(i+1) * k+j - k=i * k+j:=by rw [Nat.succ_mul];omega
   rw [e,flat_get f k hf l i j hj];simp
theorem flat_len {α β:Type} (f:α→List β) (k:Nat) (hf:∀ a,(f a).length=k) (l:List α):(l.flatMap f).length=l.length * k:=by
 induction l with
 | nil=>simp
 | cons a l ih=>simp [List.flatMap_cons,hf,ih,Nat.succ_mul];omega
theorem take_snoc {α:Type} {l:List α} {k:Nat} {a:α} (h:l[k]? = some a):l.take (k+1)=l.take k++[a]:=by
 obtain ⟨hk,rfl⟩:=List.getElem?_eq_some_iff.1 h
 exact List.take_succ_eq_append_getElem hk
theorem take_all {α:Type} {p:α→Bool} {l:List α} {k:Nat} {a:α} (h:l[k]? = some a):(l.take (k+1)).all p=((l.take k).all p && p a):=by rw [take_snoc h];simp
theorem all_no {α:Type} {p:α→Bool} {l:List α} {k:Nat} {a:α} (h:l[k]? = some a) (hp:p a=false):l.all p=false:=by
 rw [List.all_eq_false];exact ⟨a,List.mem_of_getElem? h,by simp [hp]⟩
theorem get_some {α:Type} {l:List α} {k:Nat} (h:k<l.length):∃ a,l[k]? = some a:=⟨_,List.getElem?_eq_getElem h⟩
theorem ret_of {v v':Value} (h:v=v'):Ending.returned v=Ending.returned v':=by rw [h]
theorem int_of {k:IntKind} {a b:Int} (h:a=b):Value.int k a=Value.int k b:=by rw [h]
structure Elem (P:Program) (t e:TypeId) (size bytes:Nat) (z:Value):Prop where
 under:P.underlying t=some (.slice e)
 info:(P.info? e).map (fun i=>(i.zero,i.size,i.bytes))=some (some z,size,bytes)
 zsize:z.cells.size=size
 pos:0<size
structure Sl (w:World) (Av:Nat→Prop) (size:Nat) (A:Option Addr) (n:Nat) (xs:List Value):Prop where
 len:xs.length=n * size
 at_:0<n→∃ b off,A=some ⟨b,off,none⟩∧b<w.heap.size∧¬Av b∧Row w b off xs
theorem Sl.keep {S Av:Nat→Prop} {w w':World} {size n:Nat} {A:Option Addr} {xs:List Value} (h:Sl w Av size A n xs) (hk:Keep S w w') (hS:∀ i,i<w.heap.size→S i→Av i):Sl w' Av size A n xs :=
 ⟨h.len,fun hn=>by
  obtain ⟨b,off,e,hb,ha,hr⟩:=h.at_ hn
  exact ⟨b,off,e,Nat.lt_of_lt_of_le hb hk.size,ha,hr.keep hk hb (fun hs=>ha (hS b hb hs))⟩⟩
theorem Sl.same {Av:Nat→Prop} {w w':World} {size n:Nat} {A:Option Addr} {xs:List Value} (h:Sl w Av size A n xs) (hk:Same w w'):Sl w' Av size A n xs:=h.keep hk (fun _ _ f=>f.elim)
theorem Sl.wide {Av Av':Nat→Prop} {w:World} {size n:Nat} {A:Option Addr} {xs:List Value} (h:Sl w Av size A n xs) (hS:∀ i,i<w.heap.size→Av' i→Av i):Sl w Av' size A n xs :=
 ⟨h.len,fun hn=>by
  obtain ⟨b,off,e,hb,ha,hr⟩:=h.at_ hn
  exact ⟨b,off,e,hb,fun h'=>ha (hS b hb h'),hr⟩⟩
theorem Sl.nil (w:World) (Av:Nat→Prop) (size:Nat) (A:Option Addr):Sl w Av size A 0 []:=⟨by simp,fun h=>absurd h (by omega)⟩
theorem Sl.of_blk {w:World} {g:Nat} {t:TypeId} {cs:Array Value} {Av:Nat→Prop} {size n:Nat} (h:Blk w g t cs) (hn:cs.size=n * size) (ha:¬Av g):Sl w Av size (some ⟨g,0,none⟩) n cs.toList :=
 ⟨by simpa using hn,fun _=>⟨g,0,rfl,h.lt,ha,Row.of_blk h⟩⟩
abbrev Own (w:World) (base:Nat) (e:TypeId) (size:Nat) (v:Value) (n:Nat) (xs:List Value):Prop:=w.ownsRow base e size v n xs
theorem Own.shape {w:World} {base:Nat} {e:TypeId} {size:Nat} {v:Value} {n:Nat} {xs:List Value} (h:Own w base e size v n xs):∃ A c,v=.slice A n c:=by
 rcases h.2 with ⟨rfl,rfl⟩ | ⟨g,cap,cur,rfl,_⟩
 ·exact ⟨_,_,rfl⟩
 ·exact ⟨_,_,rfl⟩
theorem Own.nil (w:World) (base:Nat) (e:TypeId) (size:Nat):Own w base e size (.slice none 0 0) 0 []:=World.ownsRow_nil _ _ _ _
theorem Own.keep {S:Nat→Prop} {w w':World} {base:Nat} {e:TypeId} {size:Nat} {v:Value} {n:Nat} {xs:List Value} (h:Own w base e size v n xs) (hk:Keep S w w') (hS:∀ i,base≤i→i<w.heap.size→¬S i):Own w' base e size v n xs:=by
 refine ⟨h.1,?_⟩
 rcases h.2 with h2 | ⟨g,cap,cur,rfl,hb,hh,r⟩
 ·exact .inl h2
 ·have hl:g<w.heap.size:=Blk.lt (t:=e) (cs:=cur) hh
  exact .inr ⟨g,cap,cur,rfl,hb,(hk.block g hl (hS g hb hl)).trans hh,r⟩
theorem Own.sl {w:World} {base:Nat} {e:TypeId} {size:Nat} {A:Option Addr} {n c:Nat} {xs:List Value} {Av:Nat→Prop} (h:Own w base e size (.slice A n c) n xs) (ha:∀ g,base≤g→¬Av g):Sl w Av size A n xs:=by
 refine ⟨h.1,fun hn=>?_⟩
 rcases h.2 with ⟨_,h2⟩ | ⟨g,cap,cur,hv,hb,hh,h1,h2,h3,h4⟩
 ·omega
 ·injection hv with hA
  refine ⟨g,0,hA,Blk.lt (t:=e) (cs:=cur) hh,ha g hb,fun j u hu=>?_⟩
  have hj:=(List.getElem?_eq_some_iff.1 hu).1
  rw [Nat.zero_add,Blk.at_ (t:=e) (cs:=cur) hh]
  rw [←h4,List.getElem?_take] at hu
  split at hu
  ·simpa using hu
  ·simp at hu
section
variable {P:Program} {t e:TypeId} {size bytes:Nat} {z:Value}
theorem Elem.make (E:Elem P t e size bytes z) (kl kc:IntKind) (l c:Int) (h0:0≤l) (hlc:l≤c) (hb:(bytes:Int) * c≤281474976710656) (h63:c≤9223372036854775807) (w:World) :
 (Instr.makeSlice t (.int kl l) (.int kc c)).run P w=.ok (.slice (some ⟨w.heap.size,0,none⟩) l.toNat c.toNat) (w.alloc (.cells (madeCells z.cells (c.toNat * size)) e)):=by
 obtain ⟨i,hi,hz,hs,hby⟩:=info_parts E.info
 subst hs hby
 exact run_make w t e i z E.under hi hz kl kc l c h0 hlc hb h63
theorem append_none (E:Elem P t e size bytes z) (w:World) (base:Nat) (ty:TypeId) (v:Value) (n:Nat) (xs:List Value) (hown:Own w base e size v n xs) (c:Nat) :
 (Builtin.append_ #[t,t] ty #[v,.slice none 0 c]).run P w=.ok v w:=by
 obtain ⟨i,hi,hz,hs,hby⟩:=info_parts E.info
 rcases hown.2 with ⟨rfl,rfl⟩ | ⟨g,cap,cur,rfl,_,_,hnc,_⟩
 ·simp [Builtin.append_,run_underlying E.under,sizeOf,typeInfo,hi,Builtin.lenOf,Builtin.firstCells]
 ·simp [Builtin.append_,run_underlying E.under,sizeOf,typeInfo,hi,Builtin.lenOf,Builtin.firstCells,hnc,storeCells]
theorem Elem.append (E:Elem P t e size bytes z) (w:World) (base:Nat) (ty:TypeId) (v:Value) (n:Nat) (xs:List Value) (hown:Own w base e size v n xs)
 (A:Option Addr) (m c:Nat) (news:List Value) (hl:news.length=m * size) (hA:0<m→∃ ad,A=some ad∧∀ j u,news[j]? = some u→w.cell? (ad.add j)=some u) (h1:∀ u∈news,u.oneCell'=true)
 (hb:(n+m) * bytes≤140737488355328) (h63:n+m≤maxLen) (hbase:base≤w.heap.size) :
 ∃ v' w',(Builtin.append_ #[t,t] ty #[v,.slice A m c]).run P w=.ok v' w'∧Own w' base e size v' (n+m) (xs++news)∧w.grownBy w' v.ownBlock:=by
 obtain ⟨i,hi,hz,hs,hby⟩:=info_parts E.info
 rcases A with _ | ad
 ·have hm:m=0:=by
   rcases Nat.eq_zero_or_pos m with h | h
   ·exact h
   ·obtain ⟨ad,h,_⟩:=hA h;cases h
  subst hm
  have hn:news=[]:=List.eq_nil_of_length_eq_zero (by simpa using hl)
  subst hn
  exact ⟨v,w,append_none E w base ty v n xs hown c,by simpa using hown,World.grownBy.refl w _⟩
 ·have hc:∀ j u,news[j]? = some u→w.cell? (ad.add j)=some u:=by
   rcases Nat.eq_zero_or_pos m with h | h
   ·intro j u hu
    have hn:news=[]:=List.eq_nil_of_length_eq_zero (by simpa [h] using hl)
    simp [hn] at hu
   ·obtain ⟨ad',h,hc⟩:=hA h
    injection h with h
    rwa [h]
  obtain ⟨v',w',hr,h2,h3,_⟩:=run_append_own (P:=P) w base t ty e i z size bytes E.under hi hz hs hby E.zsize E.pos v n xs hown ad m c news hl hc h1 h63 hb hbase
  exact ⟨v',w',hr,h2,h3⟩
end
theorem Own.block {w:World} {base:Nat} {e:TypeId} {size:Nat} {v:Value} {n:Nat} {xs:List Value} (h:Own w base e size v n xs):∀ g,v.ownBlock=some g→base≤g:=by
 intro g hg
 rcases h.2 with ⟨rfl,_⟩ | ⟨g',cap,cur,rfl,hb,_⟩
 ·simp [Value.ownBlock] at hg
 ·simp [Value.ownBlock] at hg;omega
theorem Keep.app {S:Nat→Prop} {a w w':World} {base:Nat} {e:TypeId} {size:Nat} {v:Value} {n:Nat} {xs:List Value} (h:Keep S a w) (ho:Own w base e size v n xs) (hg:w.grownBy w' v.ownBlock) (hb:∀ g,base≤g→g<a.heap.size→S g):Keep S a w' :=
 h.grown hg (fun g e hl=>hb g (ho.block g e) hl)
theorem src_new {w:World} {cs:Array Value} {t:TypeId} {news:List Value} (h:news=cs.toList):∀ j u,news[j]? = some u→(w.alloc (.cells cs t)).cell? ((⟨w.heap.size,0,none⟩:Addr).add j)=some u:=by
 subst h
 intro j u hu
 have e:(⟨w.heap.size,0,none⟩:Addr).add j=⟨w.heap.size,j,none⟩:=by unfold Addr.add;split <;> simp_all
 rw [e,(Blk.made w t cs).at_]
 simpa using hu
theorem add_blk (b off j:Nat):(⟨b,off,none⟩:Addr).add j=⟨b,off+j,none⟩:=by unfold Addr.add;split <;> simp_all
end Go.Proofs.YtbjddfiledoaoaaGreat
namespace Go.Proofs.YtbjddfiledoaoaaGreat
open Go.ChangeShapes Go.WideShapes Go.ChangeAt Go.RowKit
theorem Tryz.own:ownKnob Tryz.prog.godebug=none:=by kernel_rfl
section
variable {H:Type} {enc:TypeId × Value→H} {P:Program}
theorem trodAll_same (hl:laidOutB P=true) {W W':World} (hs:Same W W'):∀ (ts:List TypeId) (vs:List Value) (ds:List (DataW H)) (ps:List MemPlace),
 (∀ t∈ts,P.readableRec t=true∧t<P.types.size)→(∀ x∈ps,x.block<W.heap.size)→DataW.TrodAll enc P W 0 (fun _=>true) true ts vs ds ps →
 DataW.TrodAll enc P W' 0 (fun b=>decide (b<W.heap.size)) true ts vs ds ps
 | [],[],[],_,_,_,h=>h
 | [],_ :: _,_,_,_,_,h=>h.elim
 | [],[],_ :: _,_,_,_,h=>h.elim
 | _ :: _,[],_,_,_,_,h=>h.elim
 | _ :: _,_ :: _,[],_,_,_,h=>h.elim
 | t :: ts,v :: vs,d :: ds,ps,hr,hp,h=>by
   obtain ⟨p,q,h1,h2,rfl⟩:=h
   have ht:=hr t (by simp)
   exact ⟨p,q,Below.trod hl ht.1 ht.2 h1 hs.below (fun x hx=>hp x (by simp [hx])),trodAll_same hl hs ts vs ds q (fun t' h'=>hr t' (by simp [h'])) (fun x hx=>hp x (by simp [hx])) h2,rfl⟩
theorem law_post {f:Func} {s:ChangeSpec} {W W':World} {args:Array Value} {ds gs:List (DataW H)} {before:List MemPlace} {tb:TypeId}
 (hl:laidOutB P=true) (hr0:(f.params.toList.all fun t=>P.readableRec t && decide (t<P.types.size))=true) (hv:s.vars=[]) (hres:f.resultTypes=#[tb]) (htb:P.underlying tb=some .bool)
 (hfn:s.fn H (ds++gs)={ results:=[.lit (.bool true)],args:=ds })
 (hW:DataW.Whole enc P f.params.toList s.vars false W args.toList ds gs before) (hs:Same W W'):s.post enc P f false true false false W args (.bool true) W':=by
 have hlt:∀ p∈before,p.block<W.heap.size:=fun p hp=>hW.lt p hp
 have hr:∀ t∈f.params.toList,P.readableRec t=true∧t<P.types.size:=fun t ht=>by
  have:=List.all_eq_true.1 hr0 t ht
  simpa using this
 obtain ⟨p,q,hA,hV,hb,hz,hn⟩:=id hW
 rw [hv] at hV
 obtain ⟨rfl,rfl⟩:=trodVars_none hV
 refine ⟨ds,[],before,[],p,[],hW,?_,?_,?_,hs.below.frame _,fun h=>by cases h⟩
 ·rw [hfn,hres]
  exact ⟨[],[],shut_bool htb true,rfl,rfl⟩
 ·rw [hfn]
  exact trodAll_same hl hs _ _ _ _ hr (fun x hx=>hlt x (by rw [hb];simp [hx])) hA
 ·rw [hfn,hv]
  rfl
end
theorem Tryz.laid:laidOutB Tryz.prog=true:=by kernel_rfl
end Go.Proofs.YtbjddfiledoaoaaGreat
namespace Go.Proofs.YtbjddfiledoaoaaGreat
open Go.ChangeShapes Go.WideShapes Go.ChangeAt Go.RowKit Go.Deep
theorem choose_list {α:Type} {p:Nat→α→Prop}:∀ (n:Nat),(∀ i,i<n→∃ a,p i a)→∃ l:List α,l.length=n∧∀ i a,l[i]? = some a→p i a
 | 0,_=>⟨[],rfl,by simp⟩
 | n+1,h=>by
   obtain ⟨l,hl,hp⟩:=choose_list n (fun i hi=>h i (by omega))
   obtain ⟨a,ha⟩:=h n (by omega)
   refine ⟨l++[a],by simp [hl],fun i x hx=>?_⟩
   by_cases hi:i<n
   ·rw [List.getElem?_append_left (by omega)] at hx
    exact hp i x hx
   ·have hlt:=(List.getElem?_eq_some_iff.1 hx).1
    simp at hlt
    obtain rfl:i=n:=by omega
    rw [List.getElem?_append_right (by omega),hl,Nat.sub_self] at hx
    simp at hx
    subst hx
    exact ha
theorem lt_of_cell {w:World} {a:Addr} {u:Value} (h:w.cell? a=some u):a.block<w.heap.size∧a.spot=none:=by
 unfold World.cell? at h
 split at h
 ·rename_i c _ _ hb
  refine ⟨?_,?_⟩
  ·rcases Nat.lt_or_ge a.block w.heap.size with h1 | h1
   ·exact h1
   ·rw [Array.getElem?_eq_none h1] at hb;cases hb
  ·split at h
   ·cases h
   ·rename_i hs
    simpa using hs
 ·cases h
theorem add_add' (a:Addr) (i j:Nat):(a.add i).add j=a.add (i+j):=by
 unfold Addr.add
 by_cases hi:i=0 <;> by_cases hj:j=0 <;> simp [hi,hj,Nat.add_assoc]
section
variable {H:Type} {enc:TypeId × Value→H} {P:Program} {w:World}
theorem open_sl {α:Type} {f:α→List Value} {G:α→Prop} {t e:TypeId} {k b0:Nat} {r:Reach} {v:Value} {d:DataW H} {p:List MemPlace} (ht:P.underlying t=some (.slice e)) (hk:P.cellsOf e=k) (hkp:0<k) (hf:∀ a,(f a).length=k)
 (hR:∀ n cs x,DataW.trod enc P w 0 (fun _=>true) true n e cs=some x→∃ a,cs=f a∧G a) (hv:Value.okWide P w r b0 t v) (h:DataW.Trod enc P w 0 (fun _=>true) true t v d p) :
 ∃ (A:Option Addr) (n c:Nat) (l:List α),v=.slice A n c∧l.length=n∧Sl w (fun _=>False) k A n (l.flatMap f)∧(∀ a∈l,G a)∧n≤c∧c≤maxLen:=by
 obtain ⟨A,n,c,rfl⟩:=okWide_slice ht hv
 obtain ⟨fuel,hfu⟩:=h
 simp only [Value.cells] at hfu
 rcases open_slice ht hfu with ⟨hcs,_⟩ | ⟨a,len,cap,m,n',D,Pl,hcs,_,hl,hm,hmm,_,hi⟩
 ·simp at hcs
  obtain ⟨rfl,rfl,rfl⟩:=hcs
  exact ⟨none,0,0,[],rfl,rfl,Sl.nil _ _ _ _,by simp,Nat.le_refl _,by simp [maxLen]⟩
 ·simp at hcs
  obtain ⟨rfl,rfl,rfl⟩:=hcs
  have hme:m=c:=by simpa using hmm
  rw [hk] at hi
  obtain ⟨l,hll,hlp⟩:=choose_list (α:=α) (p:=fun i x=>G x∧∀ j u,(f x)[j]? = some u→w.cell? (a.add (i * k+j))=some u) n (fun i hin=>by
   obtain ⟨cs',hc,ht'⟩:=hi i (by omega)
   obtain ⟨x,rfl,hG⟩:=hR _ _ _ ht'
   obtain ⟨_,hlen,hat⟩:=World.cells?_some hc
   refine ⟨x,hG,fun j u hu=>?_⟩
   have hj:=(List.getElem?_eq_some_iff.1 hu).1
   rw [←add_add',hat j (by omega),hu])
  refine ⟨some a,n,c,l,rfl,hll,⟨by rw [flat_len f k hf,hll],fun hn=>?_⟩,?_,hl,hm⟩
  ·have hat:∀ j u,(l.flatMap f)[j]? = some u→w.cell? (a.add j)=some u:=by
    intro j u hu
    have hj:=(List.getElem?_eq_some_iff.1 hu).1
    rw [flat_len f k hf] at hj
    have hq:j / k<l.length:=by rw [Nat.div_lt_iff_lt_mul hkp];exact hj
    have hg:=flat_get f k hf l (j / k) (j % k) (Nat.mod_lt _ hkp)
    rw [Nat.div_add_mod' j k] at hg
    rw [hg,List.getElem?_eq_getElem hq] at hu
    have:=(hlp (j / k) _ (List.getElem?_eq_getElem hq)).2 (j % k) u hu
    rwa [Nat.div_add_mod' j k] at this
   have h0:0<(l.flatMap f).length:=by rw [flat_len f k hf,hll];exact Nat.mul_pos hn hkp
   have hc0:=hat 0 _ (List.getElem?_eq_getElem h0)
   have ha0:a.add 0=a:=by simp [Addr.add]
   rw [ha0] at hc0
   obtain ⟨hb,hs⟩:=lt_of_cell hc0
   obtain ⟨b,off,sp⟩:=a
   simp only at hs hb
   subst hs
   exact ⟨b,off,rfl,hb,fun f=>f,fun j u hu=>by rw [←add_blk];exact hat j u hu⟩
  ·intro x hx
   obtain ⟨i,hi',rfl⟩:=List.getElem_of_mem hx
   exact (hlp i _ (List.getElem?_eq_getElem hi')).1
theorem field_int {fs:Array Field} {n:Nat} {cs:List Value} {x:DataW H × List MemPlace} {e:TypeId} (he:P.underlying e=some (.struct fs)) (h:DataW.trod enc P w 0 (fun _=>true) true n e cs=some x) (j:Nat) {fl:Field} {k:IntKind}
 (hj:fs[j]? = some fl) (hu:P.underlying fl.type=some (.int k)) (h1:P.cellsOf fl.type=1):∃ a,cs[fl.offset]? = some (.int k a)∧(Lit.int k a).wf=true:=by
 obtain ⟨xs,m,_,_,_,hlen,hf⟩:=DataW.trod_struct he h
 have hjl:=(Array.getElem?_eq_some_iff.1 hj).1
 have hg:=hf j fl hj
 rw [h1] at hg
 obtain ⟨y,hy⟩:=get_some (l:=xs) (k:=j) (by omega)
 rw [hy] at hg
 obtain ⟨a,ha,_,hw⟩:=DataW.trod_int hu hg
 refine ⟨a,?_,hw⟩
 have:(List.take 1 (List.drop fl.offset cs))[0]? = some (.int k a):=by rw [ha];rfl
 simpa using this
theorem open_ints_sl {t e:TypeId} {k:IntKind} {b0:Nat} {r:Reach} {v:Value} {d:DataW H} {p:List MemPlace} (ht:P.underlying t=some (.slice e)) (he:P.underlying e=some (.int k)) (hc:P.cellsOf e=1)
 (hv:Value.okWide P w r b0 t v) (h:DataW.Trod enc P w 0 (fun _=>true) true t v d p) :
 ∃ (A:Option Addr) (n c:Nat) (l:List Int),v=.slice A n c∧l.length=n∧Sl w (fun _=>False) 1 A n (l.map (Value.int k))∧(∀ a∈l,(Lit.int k a).wf=true)∧n≤c∧c≤maxLen:=by
 have:=open_sl (f:=fun a=>[Value.int k a]) (G:=fun a=>(Lit.int k a).wf=true) ht hc (by decide) (fun _=>rfl) (fun n cs x h=>by
  obtain ⟨a,ha,_,hw⟩:=DataW.trod_int he h
  exact ⟨a,ha,hw⟩) hv h
 obtain ⟨A,n,c,l,h1,h2,h3,h4⟩:=this
 refine ⟨A,n,c,l,h1,h2,?_,h4⟩
 have e:∀ l:List Int,l.flatMap (fun a=>[Value.int k a])=l.map (Value.int k):=by intro l;induction l <;> simp_all [List.flatMap_cons]
 rwa [e] at h3
end
section
variable {H:Type} {enc:TypeId × Value→H} {P:Program} {w:World}
theorem sl_trod {α:Type} {f:α→List Value} {G:α→Prop} {t e:TypeId} {k fuel:Nat} {cs:List Value} {x:DataW H × List MemPlace} (ht:P.underlying t=some (.slice e)) (hk:P.cellsOf e=k) (hkp:0<k) (hf:∀ a,(f a).length=k)
 (hR:∀ n cs x,DataW.trod enc P w 0 (fun _=>true) true n e cs=some x→∃ a,cs=f a∧G a) (h:DataW.trod enc P w 0 (fun _=>true) true fuel t cs=some x) :
 ∃ (A:Option Addr) (n c:Nat) (l:List α),cs=[.slice A n c]∧l.length=n∧Sl w (fun _=>False) k A n (l.flatMap f)∧(∀ a∈l,G a)∧n≤c∧c≤maxLen:=by
 rcases open_slice ht h with ⟨hcs,_⟩ | ⟨a,len,cap,m,n',D,Pl,hcs,_,hl,hm,hmm,_,hi⟩
 ·subst hcs
  exact ⟨none,0,0,[],rfl,rfl,Sl.nil _ _ _ _,by simp,Nat.le_refl _,by simp [maxLen]⟩
 ·have hme:m=cap:=by simpa using hmm
  rw [hk] at hi
  obtain ⟨l,hll,hlp⟩:=choose_list (α:=α) (p:=fun i x=>G x∧∀ j u,(f x)[j]? = some u→w.cell? (a.add (i * k+j))=some u) len (fun i hin=>by
   obtain ⟨cs',hc,ht'⟩:=hi i (by omega)
   obtain ⟨x,rfl,hG⟩:=hR _ _ _ ht'
   obtain ⟨_,hlen,hat⟩:=World.cells?_some hc
   refine ⟨x,hG,fun j u hu=>?_⟩
   have hj:=(List.getElem?_eq_some_iff.1 hu).1
   rw [←add_add',hat j (by omega),hu])
  refine ⟨some a,len,cap,l,hcs,hll,⟨by rw [flat_len f k hf,hll],fun hn=>?_⟩,?_,hl,hm⟩
  ·have hat:∀ j u,(l.flatMap f)[j]? = some u→w.cell? (a.add j)=some u:=by
    intro j u hu
    have hj:=(List.getElem?_eq_some_iff.1 hu).1
    rw [flat_len f k hf] at hj
    have hq:j / k<l.length:=by rw [Nat.div_lt_iff_lt_mul hkp];exact hj
    have hg:=flat_get f k hf l (j / k) (j % k) (Nat.mod_lt _ hkp)
    rw [Nat.div_add_mod' j k] at hg
    rw [hg,List.getElem?_eq_getElem hq] at hu
    have:=(hlp (j / k) _ (List.getElem?_eq_getElem hq)).2 (j % k) u hu
    rwa [Nat.div_add_mod' j k] at this
   have h0:0<(l.flatMap f).length:=by rw [flat_len f k hf,hll];exact Nat.mul_pos hn hkp
   have hc0:=hat 0 _ (List.getElem?_eq_getElem h0)
   have ha0:a.add 0=a:=by simp [Addr.add]
   rw [ha0] at hc0
   obtain ⟨hb,hs⟩:=lt_of_cell hc0
   obtain ⟨b,off,sp⟩:=a
   simp only at hs hb
   subst hs
   exact ⟨b,off,rfl,hb,fun f=>f,fun j u hu=>by rw [←add_blk];exact hat j u hu⟩
  ·intro x hx
   obtain ⟨i,hi',rfl⟩:=List.getElem_of_mem hx
   exact (hlp i _ (List.getElem?_eq_getElem hi')).1
theorem ints_flat (k:IntKind) (l:List Int):l.flatMap (fun a=>[Value.int k a])=l.map (Value.int k):=by induction l <;> simp_all [List.flatMap_cons]
theorem sl_trod_ints {t e:TypeId} {k:IntKind} {fuel:Nat} {cs:List Value} {x:DataW H × List MemPlace} (ht:P.underlying t=some (.slice e)) (he:P.underlying e=some (.int k)) (hc:P.cellsOf e=1) (h:DataW.trod enc P w 0 (fun _=>true) true fuel t cs=some x) :
 ∃ (A:Option Addr) (n c:Nat) (l:List Int),cs=[.slice A n c]∧l.length=n∧Sl w (fun _=>False) 1 A n (l.map (Value.int k))∧(∀ a∈l,(Lit.int k a).wf=true)∧n≤c∧c≤maxLen:=by
 obtain ⟨A,n,c,l,h1,h2,h3,h4⟩:=sl_trod (f:=fun a=>[Value.int k a]) (G:=fun a=>(Lit.int k a).wf=true) ht hc (by decide) (fun _=>rfl) (fun n cs x h=>by
  obtain ⟨a,ha,_,hw⟩:=DataW.trod_int he h
  exact ⟨a,ha,hw⟩) h
 exact ⟨A,n,c,l,h1,h2,by rwa [ints_flat] at h3,h4⟩
theorem field_at {fs:Array Field} {n:Nat} {cs:List Value} {x:DataW H × List MemPlace} {e:TypeId} (he:P.underlying e=some (.struct fs)) (h:DataW.trod enc P w 0 (fun _=>true) true n e cs=some x) (j:Nat) {fl:Field}
 (hj:fs[j]? = some fl) (h1:P.cellsOf fl.type=1):∃ m y,DataW.trod enc P w 0 (fun _=>true) true m fl.type ((cs.drop fl.offset).take 1)=some y:=by
 obtain ⟨xs,m,_,_,_,hlen,hf⟩:=DataW.trod_struct he h
 have hjl:=(Array.getElem?_eq_some_iff.1 hj).1
 have hg:=hf j fl hj
 rw [h1] at hg
 obtain ⟨y,hy⟩:=get_some (l:=xs) (k:=j) (by omega)
 exact ⟨m,y,hg.trans hy⟩
theorem at_of_take {cs:List Value} {o:Nat} {v:Value} (h:(cs.drop o).take 1=[v]):cs[o]? = some v:=by
 have:((cs.drop o).take 1)[0]? = some v:=by rw [h];rfl
 simpa using this
end
def Fits {H:Type} (P:Program) (t:TypeId) (d:DataW H):Prop:=∀ n∈d.weights P t,n≤reachBytes
section
variable {H:Type} {enc:TypeId × Value→H} {P:Program} {w:World}
theorem fits_of {ts:List TypeId} {ds:List (DataW H)} (h:(DataW.weightsEach P ts ds).all (·≤reachBytes)=true) {j:Nat} {t:TypeId} {d:DataW H} (ht:ts[j]? = some t) (hd:ds[j]? = some d):Fits P t d:=fun n hn=>by
 simpa using List.all_eq_true.1 h _ (DataW.weights_mem_each ht hd n hn)
theorem weights_all_mem {e:TypeId} {d:DataW H}:∀ {l:List (DataW H)},d∈l→∀ n∈d.weights P e,n∈DataW.weightsAll P e l
 | x :: l,h,n,hn=>by
   simp only [DataW.weightsAll,List.mem_append]
   rcases List.mem_cons.1 h with rfl | h
   ·exact .inl hn
   ·exact .inr (weights_all_mem h n hn)
theorem Fits.slice {t e:TypeId} {el sp:List (DataW H)} (ht:P.underlying t=some (.slice e)) (h:Fits P t (.slice el sp)):(el.length+sp.length) * P.bytesOf e≤reachBytes∧∀ d∈el,Fits P e d:=by
 have hw:DataW.weights P t (.slice el sp)=(el.length+sp.length) * P.bytesOf e :: (DataW.weightsAll P e el++DataW.weightsAll P e sp):=by simp [DataW.weights,ht]
 refine ⟨h _ (by rw [hw];simp),fun d hd n hn=>h _ (by rw [hw];simp [weights_all_mem hd n hn])⟩
theorem Fits.field {t:TypeId} {fs:Array Field} {parts:List (DataW H)} (ht:P.underlying t=some (.struct fs)) (h:Fits P t (.agg parts)) {j:Nat} {fl:Field} (hj:fs[j]? = some fl) {d:DataW H} (hd:parts[j]? = some d):Fits P fl.type d:=by
 have hw:DataW.weights P t (.agg parts)=DataW.weightsEach P (fs.toList.map (·.type)) parts:=by simp [DataW.weights,ht]
 intro n hn
 exact h n (by rw [hw];exact DataW.weights_mem_each (by rw [List.getElem?_map,Array.getElem?_toList,hj];rfl) hd n hn)
theorem Fits.string {t:TypeId} {bs:List UInt8} (h:Fits P t (.lit (.string bs):DataW H)):bs.length≤reachBytes:=h _ (by simp [DataW.weights])
theorem sl_trodR {α:Type} {f:α→List Value} {G:α→Prop} {t e:TypeId} {k fuel:Nat} {cs:List Value} {x:DataW H × List MemPlace} (ht:P.underlying t=some (.slice e)) (hk:P.cellsOf e=k) (hkp:0<k) (hf:∀ a,(f a).length=k) (hfit:Fits P t x.1)
 (hR:∀ n cs x,DataW.trod enc P w 0 (fun _=>true) true n e cs=some x→Fits P e x.1→∃ a,cs=f a∧G a) (h:DataW.trod enc P w 0 (fun _=>true) true fuel t cs=some x) :
 ∃ (A:Option Addr) (n c:Nat) (l:List α),cs=[.slice A n c]∧l.length=n∧Sl w (fun _=>False) k A n (l.flatMap f)∧(∀ a∈l,G a)∧n≤c∧c≤maxLen∧n * P.bytesOf e≤reachBytes:=by
 rcases open_slice ht h with ⟨hcs,hx⟩ | ⟨a,len,cap,m,n',D,Pl,hcs,_,hl,hm,hmm,hx,hi⟩
 ·subst hcs hx
  exact ⟨none,0,0,[],rfl,rfl,Sl.nil _ _ _ _,by simp,Nat.le_refl _,by simp [maxLen],by simp⟩
 ·rw [hx] at hfit
  obtain ⟨hf1,hf2⟩:=hfit.slice ht
  rw [hk] at hi
  have hme:m=cap:=by simpa using hmm
  obtain ⟨l,hll,hlp⟩:=choose_list (α:=α) (p:=fun i x=>G x∧∀ j u,(f x)[j]? = some u→w.cell? (a.add (i * k+j))=some u) len (fun i hin=>by
   obtain ⟨cs',hc,ht'⟩:=hi i (by omega)
   obtain ⟨x,rfl,hG⟩:=hR _ _ _ ht' (hf2 _ (List.mem_map.2 ⟨i,by simp [hin],rfl⟩))
   obtain ⟨_,hlen,hat⟩:=World.cells?_some hc
   refine ⟨x,hG,fun j u hu=>?_⟩
   have hj:=(List.getElem?_eq_some_iff.1 hu).1
   rw [←add_add',hat j (by omega),hu])
  refine ⟨some a,len,cap,l,hcs,hll,⟨by rw [flat_len f k hf,hll],fun hn=>?_⟩,?_,hl,hm,?_⟩
  ·have hat:∀ j u,(l.flatMap f)[j]? = some u→w.cell? (a.add j)=some u:=by
    intro j u hu
    have hj:=(List.getElem?_eq_some_iff.1 hu).1
    rw [flat_len f k hf] at hj
    have hq:j / k<l.length:=by rw [Nat.div_lt_iff_lt_mul hkp];exact hj
    have hg:=flat_get f k hf l (j / k) (j % k) (Nat.mod_lt _ hkp)
    rw [Nat.div_add_mod' j k] at hg
    rw [hg,List.getElem?_eq_getElem hq] at hu
    have:=(hlp (j / k) _ (List.getElem?_eq_getElem hq)).2 (j % k) u hu
    rwa [Nat.div_add_mod' j k] at this
   have h0:0<(l.flatMap f).length:=by rw [flat_len f k hf,hll];exact Nat.mul_pos hn hkp
   have hc0:=hat 0 _ (List.getElem?_eq_getElem h0)
   have ha0:a.add 0=a:=by simp [Addr.add]
   rw [ha0] at hc0
   obtain ⟨hb,hs⟩:=lt_of_cell hc0
   obtain ⟨b,off,sp⟩:=a
   simp only at hs hb
   subst hs
   exact ⟨b,off,rfl,hb,fun f=>f,fun j u hu=>by rw [←add_blk];exact hat j u hu⟩
  ·intro x hx
   obtain ⟨i,hi',rfl⟩:=List.getElem_of_mem hx
   exact (hlp i _ (List.getElem?_eq_getElem hi')).1
  ·refine Nat.le_trans (Nat.mul_le_mul_right _ ?_) hf1
   simp
theorem open_slR {α:Type} {f:α→List Value} {G:α→Prop} {t e:TypeId} {k b0:Nat} {r:Reach} {v:Value} {d:DataW H} {p:List MemPlace} (ht:P.underlying t=some (.slice e)) (hk:P.cellsOf e=k) (hkp:0<k) (hf:∀ a,(f a).length=k) (hfit:Fits P t d)
 (hR:∀ n cs x,DataW.trod enc P w 0 (fun _=>true) true n e cs=some x→Fits P e x.1→∃ a,cs=f a∧G a) (hv:Value.okWide P w r b0 t v) (h:DataW.Trod enc P w 0 (fun _=>true) true t v d p) :
 ∃ (A:Option Addr) (n c:Nat) (l:List α),v=.slice A n c∧l.length=n∧Sl w (fun _=>False) k A n (l.flatMap f)∧(∀ a∈l,G a)∧n≤c∧c≤maxLen∧n * P.bytesOf e≤reachBytes:=by
 obtain ⟨A,n,c,rfl⟩:=okWide_slice ht hv
 obtain ⟨fuel,hfu⟩:=h
 simp only [Value.cells] at hfu
 obtain ⟨A',n',c',l,h1,h2⟩:=sl_trodR ht hk hkp hf hfit hR hfu
 simp at h1
 obtain ⟨rfl,rfl,rfl⟩:=h1
 exact ⟨_,_,_,l,rfl,h2⟩
theorem field_atR {fs:Array Field} {n:Nat} {cs:List Value} {x:DataW H × List MemPlace} {e:TypeId} (he:P.underlying e=some (.struct fs)) (hfit:Fits P e x.1) (h:DataW.trod enc P w 0 (fun _=>true) true n e cs=some x) (j:Nat) {fl:Field}
 (hj:fs[j]? = some fl) (h1:P.cellsOf fl.type=1):∃ m y,DataW.trod enc P w 0 (fun _=>true) true m fl.type ((cs.drop fl.offset).take 1)=some y∧Fits P fl.type y.1:=by
 obtain ⟨xs,m,_,hx,_,hlen,hf⟩:=DataW.trod_struct he h
 have hjl:=(Array.getElem?_eq_some_iff.1 hj).1
 have hg:=hf j fl hj
 rw [h1] at hg
 obtain ⟨y,hy⟩:=get_some (l:=xs) (k:=j) (by omega)
 refine ⟨m,y,hg.trans hy,?_⟩
 rw [hx] at hfit
 exact hfit.field he hj (by rw [List.getElem?_map,hy];rfl)
end
end Go.Proofs.YtbjddfiledoaoaaGreat
namespace Go.Proofs.YtbjddfiledoaoaaGreat
open Go.RowKit
theorem Own.open_ {w:World} {base:Nat} {e:TypeId} {size:Nat} {A:Option Addr} {n c:Nat} {xs:List Value} (h:Own w base e size (.slice A n c) n xs) (hn:0<n) :
 ∃ g cur,A=some ⟨g,0,none⟩∧base≤g∧Blk w g e cur∧n≤c∧c≤maxLen∧cur.size=c * size∧cur.toList.take (n * size)=xs:=by
 rcases h.2 with ⟨_,h2⟩ | ⟨g,cap,cur,hv,hb,hh,h1,h2,h3,h4⟩
 ·omega
 ·injection hv with hA _ hc
  subst hc
  exact ⟨g,cur,hA,hb,hh,h1,h2,h3,h4⟩
theorem Own.of_blk {w:World} {base:Nat} {e:TypeId} {size:Nat} {n c g:Nat} {cur:Array Value} {xs:List Value} (hb:base≤g) (h:Blk w g e cur) (h1:n≤c) (h2:c≤maxLen) (h3:cur.size=c * size) (h4:cur.toList.take (n * size)=xs) :
 Own w base e size (.slice (some ⟨g,0,none⟩) n c) n xs:=by
 refine ⟨?_,.inr ⟨g,c,cur,rfl,hb,h,h1,h2,h3,h4⟩⟩
 have:=Nat.mul_le_mul_right size h1
 rw [←h4,List.length_take,Array.length_toList,h3];omega
theorem Own.put {w:World} {base:Nat} {e:TypeId} {size:Nat} {n c g:Nat} {xs:List Value} (h:Own w base e size (.slice (some ⟨g,0,none⟩) n c) n xs) (hn:0<n) (k:Nat) (u:Value) :
 Own (w.setCell ⟨g,k,none⟩ u) base e size (.slice (some ⟨g,0,none⟩) n c) n (xs.set k u):=by
 obtain ⟨g',cur,hA,hb,hB,h1,h2,h3,h4⟩:=h.open_ hn
 injection hA with hA
 injection hA with hA
 subst hA
 refine Own.of_blk hb (hB.put k u) h1 h2 (by simpa using h3) ?_
 rw [Array.toList_setIfInBounds,List.take_set,h4]
theorem Own.cell {w:World} {base:Nat} {e:TypeId} {size:Nat} {n c g:Nat} {xs:List Value} (h:Own w base e size (.slice (some ⟨g,0,none⟩) n c) n xs) {k:Nat} {u:Value} (hk:xs[k]? = some u):w.cell? ⟨g,k,none⟩=some u:=by
 have hl:=(List.getElem?_eq_some_iff.1 hk).1
 have hn:0<n:=by
  rcases Nat.eq_zero_or_pos n with h0 | h0
  ·have:=h.1;rw [h0] at this;omega
  ·exact h0
 obtain ⟨g',cur,hA,hb,hB,h1,h2,h3,h4⟩:=h.open_ hn
 injection hA with hA
 injection hA with hA
 subst hA
 rw [hB.at_]
 rw [←h4,List.getElem?_take] at hk
 split at hk
 ·simpa using hk
 ·cases hk
theorem Own.free {w:World} {base:Nat} {e:TypeId} {size:Nat} {n c g:Nat} {xs:List Value} (h:Own w base e size (.slice (some ⟨g,0,none⟩) n c) n xs) (hn:0<n) (k:Nat):w.frozen? ⟨g,k,none⟩=false:=by
 obtain ⟨g',cur,hA,hb,hB,_⟩:=h.open_ hn
 injection hA with hA
 injection hA with hA
 subst hA
 exact hB.free k
theorem Sl.src {w w1:World} {Av:Nat→Prop} {size n:Nat} {A:Option Addr} {xs:List Value} (h:Sl w Av size A n xs) (hk:Same w w1):0<n→∃ ad,A=some ad∧∀ j u,xs[j]? = some u→w1.cell? (ad.add j)=some u:=fun hn=>by
 obtain ⟨b,off,rfl,_,_,hr⟩:=(h.same hk).at_ hn
 exact ⟨_,rfl,fun j u hu=>by rw [add_blk];exact hr j u hu⟩
theorem Own.slN {w:World} {base:Nat} {e:TypeId} {size:Nat} {A:Option Addr} {n c:Nat} {xs:List Value} (h:Own w base e size (.slice A n c) n xs):Sl w (· < base) size A n xs:=h.sl (fun g hg=>by omega)
theorem Sl.old {w:World} {Av:Nat→Prop} {size n:Nat} {A:Option Addr} {xs:List Value} (h:Sl w Av size A n xs):Sl w (fun i=>w.heap.size≤i) size A n xs :=
 ⟨h.len,fun hn=>by
  obtain ⟨b,off,e,hb,_,hr⟩:=h.at_ hn
  exact ⟨b,off,e,hb,by omega,hr⟩⟩
end Go.Proofs.YtbjddfiledoaoaaGreat

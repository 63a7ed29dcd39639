import Derived.Test.YtbjddfiledoaoaaGreatGen
import Derived.Laws.IdiomCopy
import Derived.Deep.RegionHeld3
import Derived.Deep.RegionLaw
import Derived.Deep.MidRow
import Derived.Laws.Rows
import Derived.Laws.Tables
import Derived.Lib.Varint
import Derived.Lib.Zigzag
import Derived.Lib.AppendStr
import Derived.Laws.CopyOwn
namespace Go.Proofs.YtbjddfiledoaoaaGreat
open Go.RowKit
def cutA (A:Option Addr) (c l k:Nat):Option Addr:=if c=l then A else A.map (·.add (l * k))
theorem Row.drop {w:World} {b off:Nat} {cs:List Value} (h:Row w b off cs) (l:Nat):Row w b (off+l) (cs.drop l):=by
 intro j u hu
 rw [List.getElem?_drop] at hu
 rw [Nat.add_assoc]
 exact h _ _ hu
theorem Row.take {w:World} {b off:Nat} {cs:List Value} (h:Row w b off cs) (l:Nat):Row w b off (cs.take l):=by
 intro j u hu
 rw [List.getElem?_take] at hu
 split at hu
 ·exact h _ _ hu
 ·cases hu
theorem Sl.drop {w:World} {Av:Nat→Prop} {size n:Nat} {A:Option Addr} {xs:List Value} (h:Sl w Av size A n xs) (c l:Nat) (hnc:n≤c) (hl:l≤n):Sl w Av size (cutA A c l size) (n - l) (xs.drop (l * size)):=by
 refine ⟨by rw [List.length_drop,h.len,Nat.sub_mul],fun hn=>?_⟩
 obtain ⟨b,off,rfl,hb,ha,hr⟩:=h.at_ (by omega)
 have hc:¬c=l:=by omega
 refine ⟨b,off+l * size,by simp [cutA,hc,add_blk],hb,ha,hr.drop _⟩
theorem Sl.take {w:World} {Av:Nat→Prop} {size n:Nat} {A:Option Addr} {xs:List Value} (h:Sl w Av size A n xs) (m:Nat) (hm:m≤n):Sl w Av size A m (xs.take (m * size)):=by
 refine ⟨by rw [List.length_take,h.len,Nat.min_eq_left (Nat.mul_le_mul_right _ hm)],fun hn=>?_⟩
 obtain ⟨b,off,rfl,hb,ha,hr⟩:=h.at_ (by omega)
 exact ⟨b,off,rfl,hb,ha,hr.take _⟩
theorem Own.take {w:World} {base:Nat} {e:TypeId} {size:Nat} {A:Option Addr} {n c:Nat} {xs:List Value} (h:Own w base e size (.slice A n c) n xs) (m:Nat) (hm:m≤n):Own w base e size (.slice A m c) m (xs.take (m * size)):=by
 rcases Nat.eq_zero_or_pos n with h0 | h0
 ·subst h0
  obtain rfl:m=0:=by omega
  have hx:xs=[]:=List.eq_nil_of_length_eq_zero (by simpa using h.1)
  subst hx
  simpa using h
 ·obtain ⟨g,cur,rfl,hb,hB,h1,h2,h3,h4⟩:=h.open_ h0
  refine Own.of_blk hb hB (by omega) h2 h3 ?_
  rw [←h4,List.take_take,Nat.min_eq_left (Nat.mul_le_mul_right _ hm)]
section
variable {P:Program} {t e:TypeId} {size bytes:Nat} {z:Value}
theorem Elem.append_where (E:Elem P t e size bytes z) (w:World) (base:Nat) (ty:TypeId) (v:Value) (n:Nat) (xs:List Value) (hown:Own w base e size v n xs)
 (A:Option Addr) (m c:Nat) (news:List Value) (hl:news.length=m * size) (hA:0<m→∃ ad,A=some ad∧∀ j u,news[j]? = some u→w.cell? (ad.add j)=some u) (h1:∀ u∈news,u.oneCell'=true)
 (hb:(n+m) * bytes≤140737488355328) (h63:n+m≤maxLen) {v':Value} {w':World} (hr:(Builtin.append_ #[t,t] ty #[v,.slice A m c]).run P w=.ok v' w') :
 v'.ownBlock=v.ownBlock∨v'.ownBlock=some w.heap.size:=by
 obtain ⟨i,hi,hz,hs,hby⟩:=info_parts E.info
 subst hs hby
 have hsmall:n+m≤9223372036854775807:=by simp only [maxLen] at h63;omega
 rcases A with _ | ad
 ·obtain rfl:m=0:=by
   rcases Nat.eq_zero_or_pos m with h | h
   ·exact h
   ·obtain ⟨ad,h,_⟩:=hA h;cases h
  rw [append_none E w base ty v n xs hown c] at hr
  cases hr
  exact .inl rfl
 ·have hc:∀ j u,news[j]? = some u→w.cell? (ad.add j)=some u:=by
   rcases Nat.eq_zero_or_pos m with h | h
   ·intro j u hu
    have hn:news=[]:=List.eq_nil_of_length_eq_zero (by simpa [h] using hl)
    simp [hn] at hu
   ·obtain ⟨ad',h,hc⟩:=hA h
    injection h with h
    rwa [h]
  rcases hown.2 with ⟨rfl,rfl⟩ | ⟨g,cap,cur,rfl,hbg,hg,hnc,hcm,hcs,htake⟩
  ·by_cases hm:m=0
   ·subst hm
    have hn:news=[]:=List.eq_nil_of_length_eq_zero (by simpa using hl)
    subst hn
    simp [Builtin.append_,run_underlying E.under,sizeOf,typeInfo,hi,Builtin.lenOf,Builtin.firstCells,loadCells,loadCellsFrom] at hr
    obtain ⟨rfl,rfl⟩:=hr
    exact .inl rfl
   ·rw [run_append_nil (P:=P) w t ty e i z E.under hi hz ad m c news hl hc (by omega) (by omega) (by simp only [Nat.zero_add] at hb;omega)] at hr
    cases hr
    exact .inr rfl
  ·by_cases hroom:n+m≤cap
   ·have hfit:n * i.size+news.length≤cur.size:=by rw [hl,hcs,←Nat.add_mul];exact Nat.mul_le_mul_right _ hroom
    rw [run_append_room (P:=P) w t ty e i E.under hi g n cap cur hg ad m c news hl hc h1 hroom hfit] at hr
    cases hr
    exact .inl rfl
   ·have holds:∀ j u,xs[j]? = some u→w.cell? ((⟨g,0,none⟩:Addr).add j)=some u:=World.ownsRow.cells hown (g:=g) rfl
    rw [run_append_grow (P:=P) w t ty e i z E.under hi hz ⟨g,0,none⟩ n cap xs hown.1 holds ad m c news hl hc (by omega) (by omega) (growslice_fits (by omega) hb)] at hr
    cases hr
    exact .inr rfl
theorem Elem.lawW (E:Elem P t e size bytes z) {w:World} {ops:Array Oper} {rest:List Oper} {o:Oper} {a:Act} {Q:Exit→Act→World→Prop} (s x:Operand)
 (v:Value) (A:Option Addr) (m c:Nat) (hgd:o.guard=none) (ho:o.op=.call { callee:=.builtin .append,args:=#[s,x],argTypes:=#[t,t] }) (hs:a.eval s=v) (hx:a.eval x=.slice A m c)
 (base n:Nat) (xs news:List Value) (hown:Own w base e size v n xs) (hl:news.length=m * size) (hA:0<m→∃ ad,A=some ad∧∀ j u,news[j]? = some u→w.cell? (ad.add j)=some u) (h1:∀ u∈news,u.oneCell'=true)
 (hb:(n+m) * bytes≤140737488355328) (h63:n+m≤maxLen) (hbase:base≤w.heap.size)
 (h:∀ A' c' w',Own w' base e size (.slice A' (n+m) c') (n+m) (xs++news)→w.grownBy w' v.ownBlock→(A'.map (·.block)=v.ownBlock∨A'.map (·.block)=some w.heap.size)→wpList P ops Q rest (a.put o.dst (.slice A' (n+m) c')) w'):wpList P ops Q (o :: rest) a w :=
 wpList_plain hgd fun K hK=>by
  obtain ⟨v',w',hrun,h2,h3⟩:=E.append w base o.type v n xs hown A m c news hl hA h1 hb h63 hbase
  have hw:=E.append_where w base o.type v n xs hown A m c news hl hA h1 hb h63 hrun
  unfold Oper.wp execOp
  simp only [ho,resolve,invoke,builtin,Sem.run_bind,Sem.run_pure,Result.andThen_ok,List.map_toArray,List.map_cons,List.map_nil,hs,hx,hrun]
  obtain ⟨A',c',rfl⟩:=h2.shape
  refine hK _ _ (h A' c' w' h2 h3 ?_)
  cases A' <;> simpa [Value.ownBlock] using hw
theorem zeroCells_len (z:Array Value) (n:Nat):(Builtin.zeroCells z n).toList.length=n * z.size:=by simp [Builtin.zeroCells]
theorem Elem.clear (E:Elem P t e size bytes z) (w:World) (base:Nat) (ty:TypeId) (A:Option Addr) (n c:Nat) (xs:List Value) (hown:Own w base e size (.slice A n c) n xs) (l:Nat) (hl:l≤n) (hz1:∀ u∈z.cells,u.oneCell'=true) :
 ∃ w',(Builtin.clear_ #[t] ty #[.slice (cutA A c l size) (n - l) (c - l)]).run P w=.ok (.tuple #[]) w'∧Own w' base e size (.slice A l c) l (xs.take (l * size))∧w.grownBy w' (A.map (·.block))∧w'.heap.size=w.heap.size:=by
 obtain ⟨i,hi,hz,hs,hby⟩:=info_parts E.info
 have stay:(Builtin.clear_ #[t] ty #[.slice (cutA A c l size) (n - l) (c - l)]).run P w=.ok (.tuple #[]) w→_:=fun hr =>
  (⟨w,hr,hown.take l hl,World.grownBy.refl w _,rfl⟩:∃ w',(Builtin.clear_ #[t] ty #[.slice (cutA A c l size) (n - l) (c - l)]).run P w=.ok (.tuple #[]) w'∧Own w' base e size (.slice A l c) l (xs.take (l * size))∧w.grownBy w' (A.map (·.block))∧w'.heap.size=w.heap.size)
 rcases Nat.eq_zero_or_pos (n - l) with h0 | h0
 ·refine stay ?_
  rw [h0]
  cases cutA A c l size <;> simp [Builtin.clear_,run_underlying E.under]
 ·obtain ⟨g,cur,rfl,hb,hB,h1,h2,h3,h4⟩:=hown.open_ (by omega)
  have hcl:¬c=l:=by omega
  have hcut:cutA (some (⟨g,0,none⟩:Addr)) c l size=some ⟨g,l * size,none⟩:=by simp [cutA,hcl,add_blk]
  have hzs:=E.zsize
  have hlen:(Builtin.zeroCells z.cells (n - l)).toList.length=(n - l) * size:=by rw [zeroCells_len,hzs]
  have hle:l * size+(n - l) * size≤cur.size:=by
   rw [h3,←Nat.add_mul]
   exact Nat.mul_le_mul_right _ (by omega)
  have hst:=run_storeCells_at P g (l * size) e (Builtin.zeroCells z.cells (n - l)).toList 0 cur w hB (by rw [hlen];simpa using hle) (by
   intro u hu
   obtain ⟨j,hj,rfl⟩:=List.getElem_of_mem hu
   simp only [Array.getElem_toList,Builtin.zeroCells]
   have hp:=E.pos
   have hlt:j % z.cells.size<z.cells.size:=Nat.mod_lt _ (by omega)
   refine hz1 _ ?_
   simp [hlt])
  simp only [Nat.add_zero] at hst
  obtain ⟨m,hm⟩:∃ m,n - l=m+1:=⟨n - l - 1,by omega⟩
  refine ⟨w.setRow g (cur.toList.take (l * size)++(Builtin.zeroCells z.cells (n - l)).toList++cur.toList.drop (l * size+(Builtin.zeroCells z.cells (n - l)).toList.length)).toArray,?_,?_,?_,?_⟩
  ·rw [hcut]
   rw [hm] at hst ⊢
   simp [Builtin.clear_,run_underlying E.under,zeroValue,typeInfo,hi,hz,hst]
  ·refine Own.of_blk hb (setRow_heap w g cur _ e _ hB) (by omega) h2 ?_ ?_
   ·simp only [List.size_toArray,List.length_append,List.length_take,List.length_drop,Array.length_toList,hlen]
    omega
   ·simp only [List.append_assoc]
    rw [List.take_append_of_le_length (by simp;omega),List.take_take,Nat.min_self,←h4,List.take_take,Nat.min_eq_left (Nat.mul_le_mul_right _ hl)]
  ·exact ⟨rfl,rfl,rfl,by simp,fun k _ hk=>setRow_other w g k _ (fun e=>hk (by simp [e]))⟩
  ·simp
end
theorem Elem.step2 {P:Program} {t e:TypeId} {size bytes:Nat} {z:Value} (E:Elem P t e size bytes z) {ops:Array Oper} {o:Oper} {a:Act} {w:World} {K:Act→World→Prop} {Q:Exit→Act→World→Prop} {F:Prop}
 (hg:o.guard=none) (s x:Operand) (hop:o.op=Op.call { callee:=Callee.builtin Builtin.append,args:=#[s,x],argTypes:=#[t,t] })
 (v:Value) (A:Option Addr) (m c:Nat) (hs:a.eval s=v) (hx:a.eval x=.slice A m c)
 (base n:Nat) (xs news:List Value) (k:Nat) (ys:List Value) (hk:n+m=k) (hys:xs++news=ys) (hown:Own w base e size v n xs) (hl:news.length=m * size) (hA:0<m→∃ ad,A=some ad∧∀ j u,news[j]? = some u→w.cell? (ad.add j)=some u) (h1:∀ u∈news,u.oneCell'=true)
 (hb:k * bytes≤140737488355328) (h63:k≤maxLen) (hbase:base≤w.heap.size)
 (hK:∀ A' c' w',Own w' base e size (.slice A' k c') k ys→w.grownBy w' v.ownBlock→(A'.map (·.block)=v.ownBlock∨A'.map (·.block)=some w.heap.size)→K (a.put o.dst (.slice A' k c')) w') :
 if Region.wanted o (yielded ops a.tmps)=true then Oper.wp P o a w K Q else F:=by
 subst hk hys
 have hw:Region.wanted o (yielded ops a.tmps)=true:=by simp [Region.wanted,hg]
 rw [if_pos hw]
 obtain ⟨v',w',hrun,h2,h3⟩:=E.append w base o.type v n xs hown A m c news hl hA h1 hb h63 hbase
 have hwh:=E.append_where w base o.type v n xs hown A m c news hl hA h1 hb h63 hrun
 unfold Oper.wp execOp
 simp only [hop,resolve,invoke,builtin,Sem.run_bind,Sem.run_pure,Result.andThen_ok,List.map_toArray,List.map_cons,List.map_nil,hs,hx,hrun]
 obtain ⟨A',c',rfl⟩:=h2.shape
 refine hK A' c' w' h2 h3 ?_
 cases A' <;> simpa [Value.ownBlock] using hwh
theorem src_blk {w:World} {g:Nat} {t:TypeId} {cs:Array Value} (h:Blk w g t cs):∀ j u,cs.toList[j]? = some u→w.cell? ((⟨g,0,none⟩:Addr).add j)=some u:=by
 intro j u hu
 rw [add_blk,Nat.zero_add,h.at_]
 simpa using hu
theorem Elem.law2 {P:Program} {t e:TypeId} {size bytes:Nat} {z:Value} (E:Elem P t e size bytes z) {w:World} {ops:Array Oper} {rest:List Oper} {o:Oper} {a:Act} {Q:Exit→Act→World→Prop} (s x:Operand)
 (v:Value) (A:Option Addr) (m c:Nat) (hgd:o.guard=none) (ho:o.op=.call { callee:=.builtin .append,args:=#[s,x],argTypes:=#[t,t] }) (hs:a.eval s=v) (hx:a.eval x=.slice A m c)
 (base n:Nat) (xs news:List Value) (k:Nat) (ys:List Value) (hk:n+m=k) (hys:xs++news=ys) (hown:Own w base e size v n xs) (hl:news.length=m * size) (hA:0<m→∃ ad,A=some ad∧∀ j u,news[j]? = some u→w.cell? (ad.add j)=some u) (h1:∀ u∈news,u.oneCell'=true)
 (hb:k * bytes≤140737488355328) (h63:k≤maxLen) (hbase:base≤w.heap.size)
 (h:∀ A' c' w',Own w' base e size (.slice A' k c') k ys→w.grownBy w' v.ownBlock→(A'.map (·.block)=v.ownBlock∨A'.map (·.block)=some w.heap.size)→wpList P ops Q rest (a.put o.dst (.slice A' k c')) w'):wpList P ops Q (o :: rest) a w:=by
 subst hk hys
 exact E.lawW s x v A m c hgd ho hs hx base n xs news hown hl hA h1 hb h63 hbase h
theorem Own.keepB {S:Nat→Prop} {w w':World} {base:Nat} {e:TypeId} {size:Nat} {v:Value} {n:Nat} {xs:List Value} (h:Own w base e size v n xs) (hk:Keep S w w') (hS:∀ g,v.ownBlock=some g→¬S g):Own w' base e size v n xs:=by
 refine ⟨h.1,?_⟩
 rcases h.2 with h2 | ⟨g,cap,cur,rfl,hb,hh,r⟩
 ·exact .inl h2
 ·have hl:g<w.heap.size:=Blk.lt (t:=e) (cs:=cur) hh
  exact .inr ⟨g,cap,cur,rfl,hb,(hk.block g hl (hS g rfl)).trans hh,r⟩
theorem Own.rebase {w:World} {base base':Nat} {e:TypeId} {size:Nat} {v:Value} {n:Nat} {xs:List Value} (h:Own w base e size v n xs) (hb:∀ g,v.ownBlock=some g→base'≤g):Own w base' e size v n xs:=by
 refine ⟨h.1,?_⟩
 rcases h.2 with h2 | ⟨g,cap,cur,rfl,_,r⟩
 ·exact .inl h2
 ·exact .inr ⟨g,cap,cur,rfl,hb g rfl,r⟩
theorem Own.cap {w:World} {base:Nat} {e:TypeId} {size:Nat} {A:Option Addr} {n c:Nat} {xs:List Value} (h:Own w base e size (.slice A n c) n xs):n≤c:=by
 rcases Nat.eq_zero_or_pos n with h0 | h0
 ·omega
 ·obtain ⟨_,_,_,_,_,h1,_⟩:=h.open_ h0
  exact h1
theorem Own.lt {w:World} {base:Nat} {e:TypeId} {size:Nat} {v:Value} {n:Nat} {xs:List Value} (h:Own w base e size v n xs):∀ g,v.ownBlock=some g→g<w.heap.size:=by
 intro g hg
 rcases h.2 with ⟨rfl,_⟩ | ⟨g',cap,cur,rfl,hb,hh,_⟩
 ·simp [Value.ownBlock] at hg
 ·simp [Value.ownBlock] at hg
  subst hg
  exact Blk.lt (t:=e) (cs:=cur) hh
theorem one_rest {F G:Nat→Nat→World→Prop} {goal:Prop} (main:(∀ g h W,F g h W→G g h W)→goal) (rest:∀ g h W,F g h W→G g h W):goal:=main rest
theorem takeM {P:Program} {md:Region.Mode} {ops:Array Oper} {Q:Exit→Act→World→Prop} {S:World→Prop} {i:Nat} {oi:Oper} {fuel:Nat} {listed:Array Bool} {a:Act} {w:World}
 (hs:Region.noSelect ops=true) (hf:Region.free md ops listed i=true) (hr:(Region.ready md ops listed).contains i=true) (hQ:∀ c a d v w,Q (.panic c) (Act.put a d v) w→Q (.panic c) a w) (hi:ops[i]? = some oi)
 (ty:TypeId) (x:Operand) (hg:oi.guard=none) (ho:oi.op=.load ty x) (b o:Nat) (hx:a.eval x=.pointer (some ⟨b,o,none⟩)) (cs:List Value) (d:TypeDesc) (hh:∀ W,S W→W.rangeAt b o cs)
 (hu:P.underlying ty=some d) (hd:d.isRow=true) (hz:(P.info? ty).map (·.size)=some cs.length) (hS:S w)
 (h:wpAnyH P md ops Q S fuel (listed.setIfInBounds i true) (a.put oi.dst (.agg cs.toArray)) w):wpAnyH P md ops Q S (fuel+1) listed a w :=
 wpAnyH_take hi hs hf hr (fun c a w h=>hQ c a _ _ w h) (yieldsIf_load_mid (by simp [Region.wanted,hg]) ty x ho b o hx cs d hh hu hd hz) hS h
theorem range_same {w W:World} {b o:Nat} {cs:List Value} (h:w.rangeAt b o cs) (hk:Same w W):W.rangeAt b o cs:=fun j v hv=>by
 have h1:=h j v hv
 have hlt:b<w.heap.size:=by
  cases hb:w.heap[b]? with
  | none=>unfold World.cell? at h1;rw [hb] at h1;cases h1
  | some _=>exact (Array.getElem?_eq_some_iff.1 hb).1
 rw [hk.cell hlt (fun f=>f)];exact h1
theorem takeO {P:Program} {md:Region.Mode} {ops:Array Oper} {Q:Exit→Act→World→Prop} {S:World→Prop} {i:Nat} {oi:Oper} {v:Value} {fuel:Nat} {listed:Array Bool} {a:Act} {w:World}
 (hs:Region.noSelect ops=true) (hf:Region.free md ops listed i=true) (hr:(Region.ready md ops listed).contains i=true) (hQ:∀ c a d v w,Q (.panic c) (Act.put a d v) w→Q (.panic c) a w) (hi:ops[i]? = some oi) (hy:YieldsIf P ops S oi v a) (hS:S w)
 (h:wpAnyH P md ops Q S fuel (listed.setIfInBounds i true) (a.put oi.dst v) w):wpAnyH P md ops Q S (fuel+1) listed a w:=wpAnyH_take hi hs hf hr (fun c a w h=>hQ c a _ _ w h) hy hS h
theorem takeL {P:Program} {md:Region.Mode} {ops:Array Oper} {Q:Exit→Act→World→Prop} {S:World→Prop} {i:Nat} {oi:Oper} {fuel:Nat} {listed:Array Bool} {a:Act} {w:World}
 (hs:Region.noSelect ops=true) (hf:Region.free md ops listed i=true) (hr:(Region.ready md ops listed).contains i=true) (hQ:∀ c a d v w,Q (.panic c) (Act.put a d v) w→Q (.panic c) a w) (hi:ops[i]? = some oi)
 (ty:TypeId) (x:Operand) (hg:oi.guard=none) (ho:oi.op=.load ty x) (g:Nat) (hx:a.eval x=.pointer (some ⟨g,0,none⟩)) (t:TypeId) (cs:Array Value) (fr:Nat × Nat) (d:TypeDesc) (hh:∀ W,S W→W.heap[g]? = some (.cells cs t fr))
 (hu:P.underlying ty=some d) (hd:(match d with | .struct _ | .array _ _=>true | _=>false)=true) (hz:(P.info? ty).map (·.size)=some cs.size) (hS:S w)
 (h:wpAnyH P md ops Q S fuel (listed.setIfInBounds i true) (a.put oi.dst (.agg cs)) w):wpAnyH P md ops Q S (fuel+1) listed a w :=
 wpAnyH_take hi hs hf hr (fun c a w h=>hQ c a _ _ w h) (.inl ⟨by simp [Region.wanted,hg],fun W hW=>by
  unfold execOp
  simp only [ho,hx,Instr.loadAt,Instr.sureAddr,Sem.run_bind,Sem.run_pure,Result.andThen_ok,run_loadVar_row W g t ty cs fr d (hh W hW) hu hd hz]⟩) hS h
section
variable {P:Program} {ops:Array Oper} {o:Oper} {a:Act} {w:World} {K:Act→World→Prop} {Q:Exit→Act→World→Prop} {F:Prop}
theorem store_step (hg:o.guard=none) (ty:TypeId) (x y:Operand) (ho:o.op=.store ty x y) (g:Nat) (cells:Array Value) (hx:a.eval x=.pointer (some ⟨g,0,none⟩)) (hy:a.eval y=.agg cells)
 (t:TypeId) (old:Array Value) (hh:w.heap[g]? = some (.cells old t (0,0))) (hi:(P.info? ty).map (·.size)=some cells.size) (hold:old.size=cells.size) (h1:cells.all (·.oneCell')=true)
 (hK:K (a.put o.dst undef) (w.setRow g cells)) :
 if Region.wanted o (yielded ops a.tmps)=true then Oper.wp P o a w K Q else F:=by
 rw [if_pos (by simp [Region.wanted,hg])]
 exact wp_store_row ty x y ho g cells hx hy t old hh hi hold h1 hK
end
theorem Blk.row {w:World} {g:Nat} {t:TypeId} {cs:Array Value} (h:Blk w g t cs) (vs:Array Value):Blk (w.setRow g vs) g t vs:=setRow_heap w g cs vs t _ h
theorem Keep.row (w:World) (g:Nat) (vs:Array Value):Keep (· = g) w (w.setRow g vs) :=
 ⟨rfl,rfl,rfl,by simp,fun k _ hk=>setRow_other w g k _ hk⟩
theorem one_toArray {cs:List Value} (h:∀ v∈cs,v.oneCell'=true):cs.toArray.all (·.oneCell')=true:=Array.all_eq_true_iff_forall_mem.2 (fun v hv=>h v (by simpa using hv))
theorem tk {P:Program} {md:Region.Mode} {ops:Array Oper} {Q:Exit→Act→World→Prop} {S:World→Prop} {oi:Oper} {v:Value} {fuel:Nat} {listed listed2:Array Bool} {a b:Act} {w:World} (i:Nat)
 (h:wpAnyH P md ops Q S fuel listed2 b w) (hs:Region.noSelect ops=true:=by kernel_rfl) (hf:Region.free md ops listed i=true:=by kernel_rfl) (hr:(Region.ready md ops listed).contains i=true:=by kernel_rfl) (hQ:∀ c a d v w,Q (.panic c) (Act.put a d v) w→Q (.panic c) a w:=by (intro c a d v w h;cases d <;> exact h))
 (hi:ops[i]? = some oi:=by (simp only [List.getElem?_toArray,List.getElem?_cons_succ,List.getElem?_cons_zero];rfl))
 (hy:YieldsIf P ops S oi v a:=by (refine Or.inl ⟨by rfl,?_⟩;intro w hSw;(try dsimp only at hSw);(try subst hSw);(try simp only [and_assoc] at hSw);(repeat (obtain ⟨_,hSw⟩:=hSw));go_simp;try with_reducible rfl))
 (hS:S w:=by assumption) (hb:a.put oi.dst v=b:=by ((try simp only [Act.put,List.setIfInBounds_toArray,List.set_cons_zero,List.set_cons_succ]);try rfl)) (hl:listed.setIfInBounds i true=listed2:=by ((try simp only [Act.put,List.setIfInBounds_toArray,List.set_cons_zero,List.set_cons_succ]);try rfl)):wpAnyH P md ops Q S (fuel+1) listed a w:=by
 subst hb hl
 exact takeO hs hf hr hQ hi hy hS h
theorem tu {P:Program} {md:Region.Mode} {ops:Array Oper} {Q:Exit→Act→World→Prop} {S:World→Prop} {oi:Oper} {fuel:Nat} {listed listed2:Array Bool} {a b:Act} {w:World} (i:Nat)
 (h:wpAnyH P md ops Q S fuel listed2 b w) (hs:Region.noSelect ops=true:=by kernel_rfl) (hf:Region.free md ops listed i=true:=by kernel_rfl) (hr:(Region.ready md ops listed).contains i=true:=by kernel_rfl) (hQ:∀ c a d v w,Q (.panic c) (Act.put a d v) w→Q (.panic c) a w:=by (intro c a d v w h;cases d <;> exact h))
 (hi:ops[i]? = some oi:=by (simp only [List.getElem?_toArray,List.getElem?_cons_succ,List.getElem?_cons_zero];rfl))
 (hy:YieldsIf P ops S oi undef a:=by exact Or.inr ⟨by rfl,rfl⟩)
 (hS:S w:=by assumption) (hb:a.put oi.dst undef=b:=by ((try simp only [Act.put,List.setIfInBounds_toArray,List.set_cons_zero,List.set_cons_succ]);try rfl)) (hl:listed.setIfInBounds i true=listed2:=by ((try simp only [Act.put,List.setIfInBounds_toArray,List.set_cons_zero,List.set_cons_succ]);try rfl)):wpAnyH P md ops Q S (fuel+1) listed a w:=by
 subst hb hl
 exact takeO hs hf hr hQ hi hy hS h
theorem tL {P:Program} {md:Region.Mode} {ops:Array Oper} {Q:Exit→Act→World→Prop} {S:World→Prop} {oi:Oper} {fuel:Nat} {listed listed2:Array Bool} {a b:Act} {w:World} (i:Nat) (x:Operand) (g:Nat) (t:TypeId) (cs:Array Value) (hh:∀ W,S W→W.heap[g]? = some (.cells cs t (0,0))) {ty:TypeId} {d:TypeDesc} (hu:P.underlying ty=some d)
 (h:wpAnyH P md ops Q S fuel listed2 b w) (hs:Region.noSelect ops=true:=by kernel_rfl) (hf:Region.free md ops listed i=true:=by kernel_rfl) (hr:(Region.ready md ops listed).contains i=true:=by kernel_rfl) (hQ:∀ c a d v w,Q (.panic c) (Act.put a d v) w→Q (.panic c) a w:=by (intro c a d v w h;cases d <;> exact h))
 (hi:ops[i]? = some oi:=by (simp only [List.getElem?_toArray,List.getElem?_cons_succ,List.getElem?_cons_zero];rfl))
 (hg:oi.guard=none:=by rfl) (ho:oi.op=.load ty x:=by rfl) (hx:a.eval x=.pointer (some ⟨g,0,none⟩):=by rfl) (hd:(match d with | .struct _ | .array _ _=>true | _=>false)=true:=by rfl) (hz:(P.info? ty).map (·.size)=some cs.size:=by kernel_rfl)
 (hS:S w:=by assumption) (hb:a.put oi.dst (.agg cs)=b:=by ((try simp only [Act.put,List.setIfInBounds_toArray,List.set_cons_zero,List.set_cons_succ]);try rfl)) (hl:listed.setIfInBounds i true=listed2:=by ((try simp only [Act.put,List.setIfInBounds_toArray,List.set_cons_zero,List.set_cons_succ]);try rfl)):wpAnyH P md ops Q S (fuel+1) listed a w:=by
 subst hb hl
 exact takeL hs hf hr hQ hi ty x hg ho g hx t cs (0,0) d hh hu hd hz hS h
theorem tM {P:Program} {md:Region.Mode} {ops:Array Oper} {Q:Exit→Act→World→Prop} {S:World→Prop} {oi:Oper} {fuel:Nat} {listed listed2:Array Bool} {a b:Act} {w:World} (i:Nat) (x:Operand) (g o:Nat) (cs:List Value) (hh:∀ W,S W→W.rangeAt g o cs) {ty:TypeId} {d:TypeDesc} (hu:P.underlying ty=some d)
 (h:wpAnyH P md ops Q S fuel listed2 b w) (hs:Region.noSelect ops=true:=by kernel_rfl) (hf:Region.free md ops listed i=true:=by kernel_rfl) (hr:(Region.ready md ops listed).contains i=true:=by kernel_rfl) (hQ:∀ c a d v w,Q (.panic c) (Act.put a d v) w→Q (.panic c) a w:=by (intro c a d v w h;cases d <;> exact h))
 (hi:ops[i]? = some oi:=by (simp only [List.getElem?_toArray,List.getElem?_cons_succ,List.getElem?_cons_zero];rfl))
 (hg:oi.guard=none:=by rfl) (ho:oi.op=.load ty x:=by rfl) (hx:a.eval x=.pointer (some ⟨g,o,none⟩):=by rfl) (hd:d.isRow=true:=by rfl) (hz:(P.info? ty).map (·.size)=some cs.length:=by kernel_rfl)
 (hS:S w:=by assumption) (hb:a.put oi.dst (.agg cs.toArray)=b:=by ((try simp only [Act.put,List.setIfInBounds_toArray,List.set_cons_zero,List.set_cons_succ]);try rfl)) (hl:listed.setIfInBounds i true=listed2:=by ((try simp only [Act.put,List.setIfInBounds_toArray,List.set_cons_zero,List.set_cons_succ]);try rfl)):wpAnyH P md ops Q S (fuel+1) listed a w:=by
 subst hb hl
 exact takeM hs hf hr hQ hi ty x hg ho g o hx cs d hh hu hd hz hS h
theorem pput {P:Program} {md:Region.Mode} {ops:Array Oper} {Q:Exit→Act→World→Prop} {S:World→Prop} {fuel:Nat} {l l2:Array Bool} {a b:Act} {w:World} (h:wpAnyH P md ops Q S fuel l2 b w)
 (ha:a=b:=by ((try simp only [Act.put,List.setIfInBounds_toArray,List.set_cons_zero,List.set_cons_succ]);try rfl)) (hl:l=l2:=by ((try simp only [Act.put,List.setIfInBounds_toArray,List.set_cons_zero,List.set_cons_succ]);try rfl)):wpAnyH P md ops Q S fuel l a w:=by
 subst ha hl
 exact h
theorem rd1 {P:Program} {md:Region.Mode} {ops:Array Oper} {Q:Exit→Act→World→Prop} {S:World→Prop} {fuel:Nat} {listed:Array Bool} {a:Act} {w:World} {o:Oper} (i:Nat)
 (h:∀ K:Act→World→Prop,Shut (∀ a w,S w→(S w→wpAnyH P md ops Q S fuel (listed.setIfInBounds i true) a w)→K a w)→if Region.wanted o (yielded ops a.tmps)=true then Oper.wp P o a w K Q else K (a.put o.dst undef) w)
 (hr:Region.ready md ops listed=[i]:=by kernel_rfl) (ho:ops[i]? = some o:=by exact rfl):wpAnyH P md ops Q S (fuel+1) listed a w :=
 wpAnyH_ready hr (by simp) (AllReadyH.cons ho h AllReadyH.nil)
end Go.Proofs.YtbjddfiledoaoaaGreat
namespace Go.Proofs.YtbjddfiledoaoaaGreat
open Go
def unzig (u:Nat):Int:=if u % 2=0 then ((u / 2:Nat):Int) else -((u / 2:Nat):Int) - 1
theorem unzig_zigzag (n:Int):unzig (Lib.zigzag n)=n:=by
 unfold unzig Lib.zigzag
 by_cases h:0≤n
 ·rw [if_pos h,if_pos (by omega)];omega
 ·rw [if_neg h,if_neg (by omega)];omega
def i64ok (n:Int):Prop:=-9223372036854775808≤n∧n≤9223372036854775807
theorem zigzag_ok {n:Int} (h:i64ok n):Lib.zigzag n<18446744073709551616:=by
 unfold i64ok at h;unfold Lib.zigzag;split <;> omega
def encI (n:Int):List UInt8:=Lib.uvarint (Lib.zigzag n)
theorem encI_pos (n:Int):1≤(encI n).length:=Lib.uvarint_pos _
theorem encI_le {n:Int} (h:i64ok n):(encI n).length≤10:=Lib.uvarint_length64 (zigzag_ok h)
def rdU:Nat→Nat→List UInt8→Nat × List UInt8 × Int
 | _,_,[]=>(0,[],11)
 | i,acc,b :: r=>if (i=9∧¬b.toNat=1)∨(0<i∧b.toNat=0) then (0,[],2)
   else if b.toNat<128 then (acc+b.toNat * 128 ^ i,r,0) else rdU (i+1) (acc+b.toNat % 128 * 128 ^ i) r
theorem u8_small {x:Nat} (h:x<256):x.toUInt8.toNat=x:=by
 rw [Nat.toUInt8,UInt8.toNat_ofNat'];omega
theorem rdU_enc:∀ (i x acc:Nat) (r:List UInt8),i≤9→x * 128 ^ i<18446744073709551616→(0<i→0<x)→rdU i acc (Lib.uvarint x++r)=(acc+x * 128 ^ i,r,0)
 | i,x,acc,r,hi,hx,h0=>by
   by_cases hs:x<128
   ·rw [Lib.uvarint_small hs,List.singleton_append]
    have hb:x.toUInt8.toNat=x:=u8_small (by omega)
    have h9:i=9→x=1:=by
     rintro rfl
     have:=h0 (by omega)
     have e:(128:Nat) ^ 9=9223372036854775808:=by decide
     rw [e] at hx
     omega
    unfold rdU
    have hn:¬((i=9∧¬x=1)∨(0<i∧x=0)):=by
     rintro (⟨a,b⟩ | ⟨a,b⟩)
     ·exact b (h9 a)
     ·have:=h0 a;omega
    rw [hb,if_neg hn,if_pos hs]
   ·rw [Lib.uvarint_big (by omega),List.cons_append]
    have hb:(x % 128+128).toUInt8.toNat=x % 128+128:=u8_small (by omega)
    have hi9:i≠9:=by
     rintro rfl
     have e:(128:Nat) ^ 9=9223372036854775808:=by decide
     rw [e] at hx
     omega
    have hp:128 ^ (i+1)=128 ^ i * 128:=Nat.pow_succ ..
    have hq:x / 128 * 128 ^ (i+1)≤x * 128 ^ i:=by
     rw [hp,Nat.mul_comm (128 ^ i) 128,←Nat.mul_assoc]
     exact Nat.mul_le_mul_right _ (Nat.div_mul_le_self x 128)
    unfold rdU
    rw [hb,if_neg (by omega),if_neg (by omega),show (x % 128+128) % 128=x % 128 by omega,rdU_enc (i+1) (x / 128) _ r (by omega) (by omega) (by omega)]
    congr 1
    rw [hp,Nat.mul_comm (128 ^ i) 128,←Nat.mul_assoc,Nat.add_assoc,←Nat.add_mul]
    congr 2
    omega
 termination_by _ x=>x
 decreasing_by omega
structure RS where
 rest:List UInt8
 err:Int
def rdInt (s:RS):Int × RS :=
 if ¬s.err=0 then (0,s) else if (rdU 0 0 s.rest).2.2=0 then (unzig (rdU 0 0 s.rest).1,⟨(rdU 0 0 s.rest).2.1,0⟩) else (0,⟨[],(rdU 0 0 s.rest).2.2⟩)
theorem rdInt_err {s:RS} (h:¬s.err=0):rdInt s=(0,s):=by unfold rdInt;rw [if_pos h]
theorem rdInt_enc {n:Int} (h:i64ok n) (r:List UInt8):rdInt ⟨encI n++r,0⟩=(n,⟨r,0⟩):=by
 have:=rdU_enc 0 (Lib.zigzag n) 0 r (by omega) (by simpa using zigzag_ok h) (by omega)
 unfold rdInt encI
 simp only [this,not_true_eq_false,if_false,if_true]
 simp [unzig_zigzag]
structure Tg where
 k:Int
 n:Int
 b:Bool
 d:List UInt8
 l:List Int
def zeroT (k:Int):Tg:=⟨k,0,false,[],[]⟩
def onlyT (t:Tg):Tg:=if t.k=0 then ⟨0,t.n,false,[],[]⟩ else if t.k=1 then ⟨1,0,t.b,[],[]⟩ else if t.k=4 then ⟨4,0,false,[],t.l⟩ else ⟨t.k,0,false,t.d,[]⟩
def encD (d:List UInt8):List UInt8:=encI (d.length:Int)++d
def encB (b:Bool):List UInt8:=[if b=true then 1 else 0]
def encIs (l:List Int):List UInt8:=l.flatMap encI
def encL (l:List Int):List UInt8:=encI (l.length:Int)++encIs l
def putT (t:Tg):List UInt8:=if t.k=0 then encI t.n else if t.k=1 then encB t.b else if t.k=2∨t.k=3 then encD t.d else if t.k=4 then encL t.l else []
structure OkT (t:Tg):Prop where
 k0:0≤t.k
 k4:t.k≤4
 n:i64ok t.n
 d:t.d.length≤1000000
 l:t.l.length≤1000000
 e:∀ x∈t.l,i64ok x
def rdMany (s:RS):Int × RS :=
 if ¬(rdInt s).2.err=0 then (0,(rdInt s).2) else if (rdInt s).1<0 then (0,⟨[],2⟩) else if ((rdInt s).2.rest.length:Int)<(rdInt s).1 then (0,⟨[],11⟩) else rdInt s
def rdBool (s:RS):Bool × RS :=
 if ¬s.err=0 then (false,s) else match s.rest with
  | []=>(false,⟨[],11⟩)
  | b :: r=>if 1<b.toNat then (false,⟨[],2⟩) else (decide (b.toNat=1),⟨r,0⟩)
def rdBytes (s:RS):List UInt8 × RS :=
 if ¬(rdMany s).2.err=0 then ([],(rdMany s).2) else ((rdMany s).2.rest.take (rdMany s).1.toNat,⟨(rdMany s).2.rest.drop (rdMany s).1.toNat,0⟩)
def rdL:Nat→List Int→RS→List Int × RS
 | 0,acc,s=>(acc,s)
 | n+1,acc,s=>if (rdInt s).2.err=0 then rdL n (acc++[(rdInt s).1]) (rdInt s).2 else ([],(rdInt s).2)
def rdInts (s:RS):List Int × RS:=rdL (rdMany s).1.toNat [] (rdMany s).2
def getT (k:Int) (s:RS):Tg × RS :=
 if k=0 then (⟨0,(rdInt s).1,false,[],[]⟩,(rdInt s).2)
 else if k=1 then (⟨1,0,(rdBool s).1,[],[]⟩,(rdBool s).2)
 else if k=2∨k=3 then (⟨k,0,false,(rdBytes s).1,[]⟩,(rdBytes s).2)
 else if k=4 then (⟨4,0,false,[],(rdInts s).1⟩,(rdInts s).2)
 else (zeroT k,s)
theorem encI_ok (n:Nat) (h:n≤1000000):i64ok (n:Int):=by unfold i64ok;omega
theorem rdMany_enc {n:Nat} (hn:n≤1000000) (r:List UInt8) (h:n≤r.length):rdMany ⟨encI (n:Int)++r,0⟩=((n:Int),⟨r,0⟩):=by
 unfold rdMany
 rw [rdInt_enc (encI_ok n hn)]
 simp only [not_true_eq_false,if_false]
 rw [if_neg (by omega),if_neg (by omega)]
theorem rdBytes_enc {d:List UInt8} (hd:d.length≤1000000) (r:List UInt8):rdBytes ⟨encD d++r,0⟩=(d,⟨r,0⟩):=by
 unfold rdBytes encD
 rw [List.append_assoc,rdMany_enc hd (d++r) (by simp)]
 simp
theorem encIs_cons (x:Int) (l:List Int):encIs (x :: l)=encI x++encIs l:=by simp [encIs]
theorem encIs_len (l:List Int):l.length≤(encIs l).length:=by
 induction l with
 | nil=>simp
 | cons x l ih=>rw [encIs_cons,List.length_cons,List.length_append];have:=encI_pos x;omega
theorem rdL_enc:∀ (l acc:List Int) (r:List UInt8),(∀ x∈l,i64ok x)→rdL l.length acc ⟨encIs l++r,0⟩=(acc++l,⟨r,0⟩)
 | [],acc,r,_=>by simp [rdL,encIs]
 | x :: l,acc,r,h=>by
   rw [List.length_cons,rdL,encIs_cons,List.append_assoc,rdInt_enc (h x (by simp)),if_pos rfl]
   have:=rdL_enc l (acc++[x]) r (fun y hy=>h y (by simp [hy]))
   rw [this];simp
theorem rdInts_enc {l:List Int} (hl:l.length≤1000000) (he:∀ x∈l,i64ok x) (r:List UInt8):rdInts ⟨encL l++r,0⟩=(l,⟨r,0⟩):=by
 unfold rdInts encL
 rw [List.append_assoc,rdMany_enc hl _ (by have:=encIs_len l;simp;omega)]
 simp only [Int.toNat_natCast]
 rw [rdL_enc l [] r he];simp
theorem rdBool_enc (b:Bool) (r:List UInt8):rdBool ⟨encB b++r,0⟩=(b,⟨r,0⟩):=by cases b <;> simp [rdBool,encB]
theorem getT_put {t:Tg} (h:OkT t) (r:List UInt8):getT t.k ⟨putT t++r,0⟩=(onlyT t,⟨r,0⟩):=by
 obtain ⟨k,n,b,d,l⟩:=t
 obtain ⟨h1,h2,h3,h4,h5,h6⟩:=h
 simp only at h1 h2 h3 h4 h5 h6
 have hk:k=0∨k=1∨k=2∨k=3∨k=4:=by omega
 rcases hk with rfl | rfl | rfl | rfl | rfl
 ·simp [getT,putT,onlyT,rdInt_enc h3]
 ·simp [getT,putT,onlyT,rdBool_enc]
 ·simp [getT,putT,onlyT,rdBytes_enc h4]
 ·simp [getT,putT,onlyT,rdBytes_enc h4]
 ·simp [getT,putT,onlyT,rdInts_enc h5 h6]
theorem rs_of {s:RS} (h:s.err=0):s=⟨s.rest,0⟩:=by cases s;simp_all
theorem rdMany_bad {s:RS} (h:¬(rdMany s).2.err=0):(rdMany s).1=0:=by
 unfold rdMany at h ⊢
 split
 ·rfl
 ·rename_i h1
  rw [if_neg h1] at h
  split
  ·rfl
  ·rename_i h2
   rw [if_neg h2] at h
   split
   ·rfl
   ·rename_i h3
    rw [if_neg h3] at h
    exact absurd (Decidable.not_not.1 h1) h
end Go.Proofs.YtbjddfiledoaoaaGreat
namespace Go.Proofs.YtbjddfiledoaoaaGreat
open Go.RowKit
def bv (b:UInt8):Value:=.int .u8 (b.toNat:Int)
def bcells (l:List UInt8):List Value:=l.map bv
theorem bcells_one (l:List UInt8):∀ u∈bcells l,u.oneCell'=true:=by
 intro u hu
 simp only [bcells,List.mem_map] at hu
 obtain ⟨b,_,rfl⟩:=hu
 rfl
theorem bcells_len (l:List UInt8):(bcells l).length=l.length:=by simp [bcells]
theorem bcells_app (l m:List UInt8):bcells (l++m)=bcells l++bcells m:=by simp [bcells]
theorem EBy:Elem Tryz.prog 44 5 1 1 (.int .u8 0):=⟨Tryz.underlying44,by kernel_rfl,rfl,by decide⟩
structure Wr (w:World) (wb:Nat) (r:Option Nat) (A:Option Addr) (c:Nat) (bs:List UInt8):Prop where
 top:Blk w wb 157 #[.slice A bs.length c]
 row:Own w 0 5 1 (.slice A bs.length c) bs.length (bcells bs)
 at_:A.map (·.block)=r
 ne:∀ g,r=some g→g≠wb
def WPost (w:World) (wb:Nat) (r:Option Nat) (bs:List UInt8) (e:Ending) (w':World):Prop :=
 ∃ r' A' c',e=.returned (.tuple #[])∧Wr w' wb r' A' c' bs∧Keep (fun i=>i=wb∨some i=r) w w'∧(∀ g,r'=some g→r=some g∨w.heap.size≤g)
section
variable {w w':World} {S:Nat→Prop} {wb:Nat} {r:Option Nat} {A:Option Addr} {c:Nat} {bs:List UInt8}
theorem Wr.ownBlock (h:Wr w wb r A c bs):(Value.slice A bs.length c).ownBlock=r:=by
 rw [←h.at_];cases A <;> rfl
theorem Wr.lt (h:Wr w wb r A c bs) (g:Nat) (e:r=some g):g<w.heap.size:=h.row.lt g (by rw [h.ownBlock];exact e)
theorem Wr.keep (h:Wr w wb r A c bs) (hk:Keep S w w') (h1:¬S wb) (h2:∀ g,r=some g→¬S g):Wr w' wb r A c bs :=
 ⟨h.top.keep hk h1,h.row.keepB hk (fun g e=>h2 g (by rw [←h.ownBlock];exact e)),h.at_,h.ne⟩
theorem Wr.same (h:Wr w wb r A c bs) (hk:Same w w'):Wr w' wb r A c bs:=h.keep hk (fun f=>f) (fun _ _ f=>f)
theorem Wr.c0 (h:Wr w wb r A c bs):w.cell? ⟨wb,0,none⟩=some (.slice A bs.length c):=h.top.at_ 0
theorem Wr.sl (h:Wr w wb r A c bs):Sl w (fun i=>i=wb∨¬some i=r) 1 A bs.length (bcells bs):=by
 refine ⟨by simp [bcells],fun hn=>?_⟩
 obtain ⟨g,cur,hA,_,hB,_,_,_,ht⟩:=h.row.open_ hn
 have hr:r=some g:=by rw [←h.at_,hA];rfl
 refine ⟨g,0,hA,hB.lt,fun f=>?_,?_⟩
 ·rcases f with f | f
  ·exact h.ne g hr f
  ·exact f hr.symm
 ·intro j u hu
  have:=Row.of_blk hB j u
  rw [←ht] at hu
  rw [List.getElem?_take] at hu
  split at hu
  ·exact this (by simpa using hu)
  ·simp at hu
theorem Wr.push {w1 w2:World} (h:Wr w wb r A c bs) (hk:Same w w1) {A':Option Addr} {c' k:Nat} {ys:List Value} {bs':List UInt8} (hys:ys=bcells bs') (hkn:k=bs'.length)
 (ho:Own w2 0 5 1 (.slice A' k c') k ys) (hg:w1.grownBy w2 (Value.slice A bs.length c).ownBlock) (hwh:A'.map (·.block)=(Value.slice A bs.length c).ownBlock∨A'.map (·.block)=some w1.heap.size) :
 Wr (w2.setCell ⟨wb,0,none⟩ (.slice A' k c')) wb (A'.map (·.block)) A' c' bs'∧Keep (fun i=>i=wb∨some i=r) w (w2.setCell ⟨wb,0,none⟩ (.slice A' k c'))∧(∀ g,A'.map (·.block)=some g→r=some g∨w.heap.size≤g) ∧
  w2.cell? ⟨wb,0,none⟩=some (.slice A bs.length c)∧w2.frozen? ⟨wb,0,none⟩=false:=by
 subst hys hkn
 have hob:=h.ownBlock
 rw [hob] at hg hwh
 have hwb:=h.top.lt
 have h5:=hk.size
 have hrlt:=h.lt
 have hrn:=h.ne
 have hk7:Keep (fun i=>some i=r) w w2:=(hk.wide (fun _ _ f=>f.elim)).grown hg (fun g e _=>e.symm)
 have ht7:Blk w2 wb 157 #[.slice A bs.length c]:=h.top.keep hk7 (fun e=>hrn wb e.symm rfl)
 have hnew:∀ g,A'.map (·.block)=some g→r=some g∨w1.heap.size≤g:=by
  intro g e
  rcases hwh with h1 | h1
  ·left;rw [←h1,e]
  ·right;rw [e] at h1;injection h1 with h1;omega
 have hne:∀ g,A'.map (·.block)=some g→g≠wb:=by
  intro g e
  rcases hnew g e with h1 | h1
  ·exact hrn g h1
  ·omega
 have hk8:Keep (· = wb) w2 (w2.setCell ⟨wb,0,none⟩ (.slice A' bs'.length c')):=(Keep.refl _ w2).put 0 _
 refine ⟨⟨?_,?_,rfl,hne⟩,?_,?_,ht7.at_ 0,ht7.free 0⟩
 ·have:=ht7.put 0 (.slice A' bs'.length c')
  simpa using this
 ·exact ho.keepB hk8 (fun g e=>hne g (by rw [←e];cases A' <;> rfl))
 ·exact (hk7.wide (fun _ _ h=>.inr h)).trans hk8 (fun _ _ h=>.inl h)
 ·intro g e
  rcases hnew g e with h1 | h1
  ·exact .inl h1
  ·exact .inr (by omega)
end
theorem zz_pos {n:Int} (h0:0≤n) (h1:n≤9223372036854775807):bits .xor .u64 (n * 2) (n / 9223372036854775808)=((Lib.zigzag n:Nat):Int):=by
 rw [Lib.zigzag_nonneg h0,show n / 9223372036854775808=0 by omega]
 obtain ⟨k,rfl⟩:=Int.eq_ofNat_of_zero_le h0
 have:=bits_xor_u64_nat (k * 2) 0 (by omega) (by omega)
 simpa using this
theorem zz_neg {n:Int} (h0 : -9223372036854775808≤n) (h1:n<0):bits .xor .u64 (IntKind.u64.wrap (IntKind.u64.wrap n * 2)) (IntKind.u64.wrap (n / 9223372036854775808))=((Lib.zigzag n:Nat):Int):=by
 rw [←Lib.zigzag_neg h0 h1,show n / 9223372036854775808 = -1 by omega]
 have e1:IntKind.u64.wrap (IntKind.u64.wrap n * 2)=(((2 * n+18446744073709551616).toNat:Nat):Int):=by
  rw [IntKind.wrap_u64,IntKind.wrap_u64];omega
 have e2:IntKind.u64.max=((2 ^ 64 - 1:Nat):Int):=by decide
 have e3:IntKind.u64.wrap (-1)=((2 ^ 64 - 1:Nat):Int):=by decide
 rw [e1,e2,e3,bits_xor_u64_nat _ _ (by omega) (by decide),bits_xor_u64_nat _ _ (by decide) (by omega),Nat.xor_comm]
def WLoop (w:World) (wb:Nat) (r:Option Nat) (all:List UInt8) (u:Value) (wr:World):Prop :=
 ∃ (x:Int) (r' A':Option _) (c':Nat) (bs':List UInt8),u=.int .u64 x∧(0≤x∧x≤18446744073709551615)∧Wr wr wb r' A' c' bs'∧bs'++Lib.uvarint x.toNat=all∧Keep (fun i=>i=wb∨some i=r) w wr∧(∀ g,r'=some g→r=some g∨w.heap.size≤g)
theorem WPost.next {w w1 w2:World} {wb:Nat} {r r1 r2:Option Nat} (_hl:∀ g,r=some g→g<w.heap.size) (h1:Keep (fun i=>i=wb∨some i=r) w w1) (g1:∀ g,r1=some g→r=some g∨w.heap.size≤g)
 (h2:Keep (fun i=>i=wb∨some i=r1) w1 w2) (g2:∀ g,r2=some g→r1=some g∨w1.heap.size≤g):Keep (fun i=>i=wb∨some i=r) w w2∧∀ g,r2=some g→r=some g∨w.heap.size≤g:=by
 refine ⟨h1.trans h2 (fun i hi hs=>?_),fun g e=>?_⟩
 ·rcases hs with hs | hs
  ·exact .inl hs
  ·rcases g1 i hs.symm with h | h
   ·exact .inr h.symm
   ·omega
 ·rcases g2 g e with h | h
  ·exact g1 g h
  ·exact .inr (Nat.le_trans h1.size h)
set_option maxHeartbeats 2000000 in
theorem wInt_any (w:World) (wb:Nat) (r:Option Nat) (A:Option Addr) (c:Nat) (bs:List UInt8) (h:Wr w wb r A c bs) (hn:bs.length≤1000000000) (n:Int) (h0 : -9223372036854775808≤n) (h1:n≤9223372036854775807) :
 Calls Tryz.prog 77 #[.pointer (some ⟨wb,0,none⟩),.int .i64 n] w (WPost w wb r (bs++encI n)):=by
 have H:=hid h
 have HL:=hid h.lt
 have hle:(bs++encI n).length≤1000000010:=by have:=encI_le (n:=n) ⟨h0,h1⟩;simp;omega
 have hzz:=zigzag_ok (n:=n) ⟨h0,h1⟩
 have hst:∀ z:Int,z=((Lib.zigzag n:Nat):Int)→WLoop w wb r (bs++encI n) (.int .u64 z) w:=fun z hz=>⟨z,r,A,c,bs,rfl,by omega,h,by rw [hz];rfl,Keep.refl _ _,fun g e=>.inl e⟩
 have HST:=hid hst
 generalize bs++encI n=all at *
 clear h hzz hst
 by_cases hs:0≤n
 all_goals
  go_enter Tryz.func77,Tryz.ntmps77
  go_wp2
  go_loopw [4] (fun u wr=>WLoop w wb r all u wr) (fun u _=>(RowKit.intOf u).toNat)
  case atStart =>
   refine HST.out _ ?_
   first | (with_reducible exact zz_pos hs h1) | (with_reducible exact zz_neg h0 (by omega))
  case round =>
   obtain ⟨x,r1,A1,c1,bs1,rfl,⟨hx0,hx1⟩,hW,hall,hK,hg⟩:=hrel
   have hb1:bs1.length≤1000000010:=by rw [←hall] at hle;simp at hle;omega
   have c0:=hW.c0
   have hz:=hW.top.lt
   have HK:=hid hK
   have HG:=hid hg
   by_cases hx2:128≤x
   ·have hbb:bits .or .u8 (x % 256) 128=x % 128+128:=by rw [Lib.u8_or128_any _ (by omega) (by omega)];omega
    have hk:Same wr (wr.alloc (.cells #[.int .u8 (x % 128+128)] 5)):=(Keep.refl _ wr).alloc _
    have HO:=hid (World.ownsRow.alloc hW.row (.cells #[.int .u8 (x % 128+128)] 5))
    have HN:=hid (show bs1++[(x.toNat % 128+128).toUInt8]++Lib.uvarint (x / 128).toNat=all by rw [←hall,Lib.uvarint_big (x:=x.toNat) (by omega),show (x / 128).toNat=x.toNat / 128 by omega];simp)
    have HB:=hid (show bcells bs1++[.int .u8 (x % 128+128)]=bcells (bs1++[(x.toNat % 128+128).toUInt8]) by
     rw [bcells_app];congr 1;simp only [bcells,List.map_cons,List.map_nil,bv,u8_small (show x.toNat % 128+128<256 by omega)];congr 2;omega)
    have H1:=hid hW
    clear hW hall hK hg
    go_wp2_with (
     at_builtin
     refine EBy.law2 (.tmp 18) (.tmp 22) (.slice A1 bs1.length c1) (some ⟨wr.heap.size,0,none⟩) 1 1 rfl rfl rfl rfl 0 bs1.length (bcells bs1) [.int .u8 (x % 128+128)] (bs1.length+1) _ rfl rfl HO.out rfl (fun _=>⟨_,rfl,src_new rfl⟩) (by intro u hu;simp at hu;subst hu;rfl) (by omega) (by unfold maxLen;omega) (Nat.zero_le _) ?_
     intro A' c' w2 ho hg hw
     obtain ⟨hp1,hp2,hp3,hp4,hp5⟩:=H1.out.push (bs':=bs1++[(x.toNat % 128+128).toUInt8]) hk HB.out (by simp) ho hg hw
     have HP:=hid (And.intro hp1 (And.intro hp2 hp3))
     clear ho hg hw hp1 hp2 hp3)
    go_roundw
    case rel =>
     have hq:=WPost.next HL.out HK.out HG.out HP.out.2.1 HP.out.2.2
     exact ⟨x / 128,_,A',c',_,rfl,by omega,HP.out.1,HN.out,hq.1,hq.2⟩
    case measure=>simp [RowKit.intOf];omega
   ·have hxm:x % 256=x:=by omega
    have hk:Same wr (wr.alloc (.cells #[.int .u8 x] 5)):=(Keep.refl _ wr).alloc _
    have HO:=hid (World.ownsRow.alloc hW.row (.cells #[.int .u8 x] 5))
    have HN:=hid (show bs1++[x.toNat.toUInt8]=all by rw [←hall,Lib.uvarint_small (by omega)])
    have HB:=hid (show bcells bs1++[.int .u8 x]=bcells (bs1++[x.toNat.toUInt8]) by
     rw [bcells_app];congr 1;simp only [bcells,List.map_cons,List.map_nil,bv,u8_small (show x.toNat<256 by omega)];congr 2;omega)
    have H1:=hid hW
    clear hW hall hK hg
    go_wp2_with (
     at_builtin
     refine EBy.law2 (.tmp 32) (.tmp 35) (.slice A1 bs1.length c1) (some ⟨wr.heap.size,0,none⟩) 1 1 rfl rfl rfl rfl 0 bs1.length (bcells bs1) [.int .u8 x] (bs1.length+1) _ rfl rfl HO.out rfl (fun _=>⟨_,rfl,src_new rfl⟩) (by intro u hu;simp at hu;subst hu;rfl) (by omega) (by unfold maxLen;omega) (Nat.zero_le _) ?_
     intro A' c' w2 ho hg hw
     obtain ⟨hp1,hp2,hp3,hp4,hp5⟩:=H1.out.push (bs':=bs1++[x.toNat.toUInt8]) hk HB.out (by simp) ho hg hw
     have HP:=hid (And.intro hp1 (And.intro hp2 hp3))
     clear ho hg hw hp1 hp2 hp3)
    go_end0
    have hq:=WPost.next HL.out HK.out HG.out HP.out.2.1 HP.out.2.2
    rw [←HN.out]
    exact ⟨_,A',c',rfl,HP.out.1,hq.1,hq.2⟩
section
variable {P:Program} {t e u:TypeId}
theorem append_str_where (E:Elem P t e 1 1 (.int .u8 0)) (hu:P.underlying u=some .string) (w:World) (base:Nat) (ty:TypeId) (v:Value) (n:Nat) (xs:List Value) (hown:Own w base e 1 v n xs)
 (s:ByteArray) (hb:n+s.size≤140737488355328) (h63:n+s.size≤maxLen) {v':Value} {w':World} (hr:(Builtin.append_ #[t,u] ty #[v,.string s]).run P w=.ok v' w') :
 v'.ownBlock=v.ownBlock∨v'.ownBlock=some w.heap.size:=by
 obtain ⟨i,hi,hz,hs,hby⟩:=info_parts E.info
 have hsmall:n+s.size≤9223372036854775807:=by simp only [maxLen] at h63;omega
 rcases hown.2 with ⟨rfl,rfl⟩ | ⟨g,cap,cur,rfl,hbg,hg,hnc,hcm,hcs,htake⟩
 ·by_cases hm:s.size=0
  ·have hf:=Lib.run_firstCells_string (P:=P) w 1 s
   rw [hm] at hf
   simp [Builtin.append_,run_underlying E.under,run_underlying hu,sizeOf,typeInfo,hi,hs,Builtin.lenOf,hm,hf] at hr
   obtain ⟨rfl,rfl⟩:=hr
   exact .inl rfl
  ·rw [run_append_nil_string (P:=P) w t u ty e i (.int .u8 0) E.under hu hi hz s (by omega) (by omega) (by rw [hby];omega)] at hr
   cases hr
   exact .inr rfl
 ·by_cases hroom:n+s.size≤cap
  ·have hcs':cur.size=cap:=by simpa using hcs
   rw [Lib.run_append_room_string (P:=P) w t u ty e i E.under hu hi hs g n cap cur hg s hroom (by omega)] at hr
   cases hr
   exact .inl rfl
  ·have holds:∀ j u,xs[j]? = some u→w.cell? ((⟨g,0,none⟩:Addr).add j)=some u:=World.ownsRow.cells hown (g:=g) rfl
   rw [Lib.run_append_grow_string (P:=P) w t u ty e i (.int .u8 0) E.under hu hi hz ⟨g,0,none⟩ n cap xs (by rw [hs];exact hown.1) holds s (by omega) (by omega) (by rw [hby];exact growslice_fits (by omega) (by omega))] at hr
   cases hr
   exact .inr rfl
theorem Elem.lawStr (E:Elem P t e 1 1 (.int .u8 0)) (hu:P.underlying u=some .string) {w:World} {ops:Array Oper} {rest:List Oper} {o:Oper} {a:Act} {Q:Exit→Act→World→Prop} (s x:Operand)
 (v:Value) (d:ByteArray) (hgd:o.guard=none) (ho:o.op=.call { callee:=.builtin .append,args:=#[s,x],argTypes:=#[t,u] }) (hs:a.eval s=v) (hx:a.eval x=.string d)
 (base n:Nat) (xs:List Value) (k:Nat) (ys:List Value) (hk:n+d.size=k) (hys:xs++bcells d.data.toList=ys) (hown:Own w base e 1 v n xs)
 (hb:k≤140737488355328) (h63:k≤maxLen) (hbase:base≤w.heap.size)
 (h:∀ A' c' w',Own w' base e 1 (.slice A' k c') k ys→w.grownBy w' v.ownBlock→(A'.map (·.block)=v.ownBlock∨A'.map (·.block)=some w.heap.size)→wpList P ops Q rest (a.put o.dst (.slice A' k c')) w'):wpList P ops Q (o :: rest) a w:=by
 subst hk hys
 refine wpList_plain hgd fun K hK=>?_
 obtain ⟨i,hi,hz,hsz,hby⟩:=info_parts E.info
 obtain ⟨v',w',hr,h2,h3,_⟩:=Lib.run_append_own_string (P:=P) w base t u o.type e i E.under hu hi hz hsz hby v n xs hown d h63 hb hbase
 have hw:=append_str_where E hu w base o.type v n xs hown d hb h63 hr
 unfold Oper.wp execOp
 simp only [ho,resolve,invoke,builtin,Sem.run_bind,Sem.run_pure,Result.andThen_ok,List.map_toArray,List.map_cons,List.map_nil,hs,hx,hr]
 obtain ⟨A',c',rfl⟩:=Own.shape h2
 refine hK _ _ (h A' c' w' h2 h3 ?_)
 cases A' <;> simpa [Value.ownBlock] using hw
theorem copy_all {bytes:Nat} {z:Value} (E:Elem P t e 1 bytes z) {w:World} {ops:Array Oper} {rest:List Oper} {o:Oper} {a:Act} {Q:Exit→Act→World→Prop} (d s:Operand)
 (g n c:Nat) (A:Option Addr) (m c':Nat) (hgd:o.guard=none) (ho:o.op=.call { callee:=.builtin .copy,args:=#[d,s],argTypes:=#[t,t] }) (hd:a.eval d=.slice (some ⟨g,0,none⟩) n c) (hs:a.eval s=.slice A m c')
 (cur:Array Value) (hB:Blk w g e cur) (hcur:cur.size=n) (Av:Nat→Prop) (xs:List Value) (hS:Sl w Av 1 A m xs) (hnm:n≤m) (h1:∀ u∈xs,u.oneCell'=true)
 (h:∀ w',Blk w' g e (xs.take n).toArray→Keep (· = g) w w'→wpList P ops Q rest (a.put o.dst (goInt n)) w'):wpList P ops Q (o :: rest) a w:=by
 obtain ⟨i,hi,hz,hsz,hby⟩:=info_parts E.info
 have hsz':(P.info? e).map (·.size)=some 1:=by rw [hi];simp [hsz]
 have hxl:xs.length=m:=by simpa using hS.len
 rcases Nat.eq_zero_or_pos n with h0 | h0
 ·subst h0
  have hc0:cur=#[]:=Array.eq_empty_of_size_eq_zero hcur
  subst hc0
  exact wpList_copy_nothing hgd d s t t ho e E.under hsz' _ _ _ _ _ _ hd hs (by simp) (h w (by simpa using hB) (Keep.refl _ _))
 ·obtain ⟨b,off,rfl,hb,_,hr⟩:=hS.at_ (by omega)
  have hcl:(xs.take n).length=n:=by rw [List.length_take];omega
  have:=wpList_copy_own (P:=P) (rest:=rest) (Q:=Q) (ops:=ops) hgd d s t t ho e E.under hsz' g 0 n c ⟨b,off,none⟩ m c' hd hs cur e hB (xs.take n) (by rw [hcl];exact (Nat.min_eq_right hnm).symm) (fun j u hu=>by
   rw [add_blk]
   rw [List.getElem?_take] at hu
   split at hu
   ·exact hr j u hu
   ·simp at hu) (by omega) (fun u hu=>h1 u (List.mem_of_mem_take hu))
  refine this ?_
  have hcells:(List.take 0 cur.toList++(List.take n xs++List.drop (0+(List.take n xs).length) cur.toList)).toArray=(xs.take n).toArray:=by
   rw [hcl]
   simp [List.drop_eq_nil_of_le,hcur]
  rw [hcells,hcl]
  refine h _ ?_ ?_
  ·exact setRow_heap w g cur _ e _ hB
  ·exact ⟨rfl,rfl,rfl,by simp [World.setRow],fun k _ hk=>setRow_other w g k _ (by omega)⟩
end
end Go.Proofs.YtbjddfiledoaoaaGreat

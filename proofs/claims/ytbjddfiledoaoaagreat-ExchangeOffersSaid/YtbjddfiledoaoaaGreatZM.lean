import Derived.Maps.OwnSet
import Derived.Test.YtbjddfiledoaoaaGreatGen
namespace Go.Proofs.YtbjddfiledoaoaaGreat
open Go.RowKit
open Go.Maps (Keyed has size IsMap Tidy)
def anyE (v:Value):Option (DataW Value × List MemPlace):=some (.held v,[])
theorem held_inj {v r:Value} {ps:List MemPlace} (h:anyE v=some (.held r,ps)):v=r:=by
 have h1:=congrArg Prod.fst (Option.some.inj h)
 exact DataW.held.inj h1
theorem KI64:Keyed Tryz.prog 2:=Maps.int_keyed Tryz.underlying2
theorem wf64 {j:Int} (h : -9223372036854775808≤j) (h2:j≤9223372036854775807):(Lit.int .i64 j).wf=true:=by
 rw [Lit.wf,show IntKind.i64.min = -9223372036854775808 from rfl,show IntKind.i64.max=9223372036854775807 from rfl];simp;omega
theorem key64 {j:Int} (h:(Lit.int .i64 j).wf=true):keyOf Tryz.prog 2 (.int .i64 j)=some (.int .i64 j):=Maps.keyOf_int_mk Tryz.underlying2 h
theorem isKey64 (j:Int):WideAt.IsKeyLit (.int .i64 j):=by trivial
theorem lit64_ne {i j:Int} (h:i≠j):(Lit.int .i64 i)≠.int .i64 j:=by intro e;injection e;exact h ‹_›
def GMap (w:World) (b n:Nat) (z:Value) (K:List Int) (f:Int→Value):Prop :=
 ∃ D:DataW Value,w.ownsMap Tryz.prog 2 anyE b n D∧size D=K.length∧K.Nodup∧(∀ j,has D (.int .i64 j)=true↔j∈K)∧∀ j,D.atKey (.int .i64 j) (.held z)=.held (f j)
def addK (K:List Int) (j:Int):List Int:=if j∈K then K else j :: K
theorem addK_mem (K:List Int) (j i:Int):i∈addK K j↔i=j∨i∈K:=by
 unfold addK
 split
 ·constructor
  ·exact .inr
  ·rintro (rfl | h) <;> assumption
 ·exact List.mem_cons
theorem addK_nodup {K:List Int} (h:K.Nodup) (j:Int):(addK K j).Nodup:=by
 unfold addK
 split
 ·exact h
 ·exact List.nodup_cons.2 ⟨‹_›,h⟩
theorem nodup_le:∀ {K L:List Int},K.Nodup→(∀ x∈K,x∈L)→K.length≤L.length
 | [],_,_,_=>Nat.zero_le _
 | x :: K,L,h,g=>by
   have hx:=g x (List.mem_cons_self ..)
   have h1:=List.nodup_cons.1 h
   have h2:=nodup_le (K:=K) (L:=L.erase x) h1.2 (fun y hy=>(List.mem_erase_of_ne (by rintro rfl;exact h1.1 hy)).2 (g y (List.mem_cons_of_mem _ hy)))
   have h3:=List.length_erase_of_mem hx
   have h4:=List.length_pos_of_mem hx
   rw [List.length_cons]
   omega
section
variable {w w':World} {b n:Nat} {z:Value} {K:List Int} {f:Int→Value} {S:Nat→Prop}
theorem GMap.lt (h:GMap w b n z K f):b<w.heap.size:=by obtain ⟨D,h,_⟩:=h;exact h.lt
theorem GMap.nodup (h:GMap w b n z K f):K.Nodup:=by obtain ⟨D,_,_,h,_⟩:=h;exact h
theorem GMap.keep (h:GMap w b n z K f) (hk:Keep S w w') (hn:¬S b):GMap w' b n z K f:=by
 obtain ⟨D,⟨es,cl,hb,r⟩,h⟩:=h
 exact ⟨D,⟨es,cl,(hk.block b (Array.getElem?_eq_some_iff.1 hb).1 hn).trans hb,r⟩,h⟩
theorem GMap.made (w:World) (z:Value):GMap (w.alloc (.map #[] 0)) w.heap.size 0 z [] (fun _=>z) :=
 ⟨.map [],World.ownsMap_made w _ _ _,rfl,List.nodup_nil,fun j=>by simp [has],fun _=>rfl⟩
variable {ops:Array Oper} {rest:List Oper} {o:Oper} {a:Act} {Q:Exit→Act→World→Prop}
theorem gput (hg:o.guard=none) (m x v:Operand) (t e:TypeId) (ht:Tryz.prog.underlying t=some (.map 2 e)) (hop:o.op=Op.mapUpdate t m x v) (b n:Nat) (z:Value) (K:List Int) (f:Int→Value) (hm:a.eval m=.map (some b)) (h:GMap w b n z K f) (hn:n<maxLen)
 (j:Int) (hx:a.eval x=.int .i64 j) (hj:(Lit.int .i64 j).wf=true) (u:Value) (hv:a.eval v=u) (hK:∀ w',GMap w' b (n+1) z (addK K j) (fun i=>if i=j then u else f i)→w.grownBy w' (some b)→wpList Tryz.prog ops Q rest (a.put o.dst undef) w') :
 wpList Tryz.prog ops Q (o :: rest) a w:=by
 obtain ⟨D,hD,h1,h2,h3,h4⟩:=h
 refine wpList_mapUpdate_own w hg m x v t hop _ _ KI64 ht _ b n D hm hD hn _ _ (.int .i64 j) hx hv (key64 hj) (.held u) [] rfl ?_
 intro w' hD' hg'
 refine hK w' ⟨_,hD',?_,addK_nodup h2 j,fun i=>?_,fun i=>?_⟩ hg'
 ·rw [Maps.size_put (hD.tidy KI64),h1]
  unfold addK
  by_cases e:j∈K
  ·rw [if_pos ((h3 j).2 e),if_pos e]
  ·rw [if_neg (fun q=>e ((h3 j).1 q)),if_neg e];rfl
 ·rw [addK_mem]
  by_cases e:i=j
  ·subst e
   rw [Maps.has_put_same hD.isMap (isKey64 _)];simp
  ·rw [Maps.has_put_other (lit64_ne e),h3 i];simp [e]
 ·by_cases e:i=j
  ·subst e
   rw [Maps.atKey_put_same hD.isMap (isKey64 _)];simp
  ·rw [Maps.atKey_put_other (lit64_ne e),h4 i];simp [e]
theorem glook (hg:o.guard=none) (m x:Operand) (t e:TypeId) (ht:Tryz.prog.underlying t=some (.map 2 e)) (hop:o.op=Op.lookup t m x false) (b n:Nat) (z:Value) (hz:(zeroValue e).run Tryz.prog w=.ok z w) (K:List Int) (f:Int→Value) (hm:a.eval m=.map (some b)) (h:GMap w b n z K f)
 (j:Int) (hx:a.eval x=.int .i64 j) (hj:(Lit.int .i64 j).wf=true) (r:Value) (hr:f j=r) (hK:wpList Tryz.prog ops Q rest (a.put o.dst r) w):wpList Tryz.prog ops Q (o :: rest) a w:=by
 obtain ⟨D,hD,h1,h2,h3,h4⟩:=h
 refine wpList_plain hg fun K' hK'=>?_
 obtain ⟨v,ps,hrun,hv⟩:=hD.lookup KI64 ht hz (zd:=.held z) (zp:=[]) rfl (key64 hj)
 rw [h4 j,hr] at hv
 have hvb:v=r:=held_inj hv
 subst hvb
 unfold Oper.wp
 simp [execOp,hop,hm,hx,hrun,Result.andThen]
 exact hK' _ _ hK
theorem glen (hg:o.guard=none) (m:Operand) (t e:TypeId) (ht:Tryz.prog.underlying t=some (.map 2 e)) (hop:o.op=Op.call { callee:=Callee.builtin Builtin.len,args:=#[m],argTypes:=#[t] }) (b n:Nat) (z:Value) (K:List Int) (f:Int→Value) (hm:a.eval m=.map (some b)) (h:GMap w b n z K f)
 (hK:wpList Tryz.prog ops Q rest (a.put o.dst (.int .i64 K.length)) w):wpList Tryz.prog ops Q (o :: rest) a w:=by
 obtain ⟨D,hD,h1,h2,h3,h4⟩:=h
 exact wpList_len_own w hg m t hop _ _ ht _ b n D hm hD (by rw [h1];exact hK)
end
end Go.Proofs.YtbjddfiledoaoaaGreat

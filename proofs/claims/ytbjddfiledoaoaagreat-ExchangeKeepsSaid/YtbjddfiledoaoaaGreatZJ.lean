import Derived.Test.YtbjddfiledoaoaaGreatZRa
import Derived.Test.YtbjddfiledoaoaaGreatZM
import Derived.Test.YtbjddfiledoaoaaGreatYL
namespace Go.Proofs.YtbjddfiledoaoaaGreat
open Go.RowKit
section
variable {w w':World} {b n:Nat} {z:Value} {K:List Int} {f:Int→Value}
variable {ops:Array Oper} {rest:List Oper} {o:Oper} {a:Act} {Q:Exit→Act→World→Prop}
theorem glook_ok (hg:o.guard=none) (m x:Operand) (t e:TypeId) (ht:Tryz.prog.underlying t=some (.map 2 e)) (hop:o.op=Op.lookup t m x true) (b n:Nat) (z:Value) (hz:(zeroValue e).run Tryz.prog w=.ok z w) (K:List Int) (f:Int→Value) (hm:a.eval m=.map (some b)) (h:GMap w b n z K f)
 (j:Int) (hx:a.eval x=.int .i64 j) (hj:(Lit.int .i64 j).wf=true) (r:Value) (hr:f j=r) (c:Bool) (hc:c=true↔j∈K) (hK:wpList Tryz.prog ops Q rest (a.put o.dst (.tuple #[r,.bool c])) w):wpList Tryz.prog ops Q (o :: rest) a w:=by
 obtain ⟨D,hD,h1,h2,h3,h4⟩:=h
 refine Go.wpList_lookup_own_ok w hg m x t hop _ _ KI64 ht _ hz (.held z) [] rfl b n D hm hD _ (.int .i64 j) hx (key64 hj) ?_
 intro v ps hv
 rw [h4 j,hr] at hv
 have hvb:v=r:=held_inj hv
 subst hvb
 have hcc:Maps.has D (.int .i64 j)=c:=by
  rw [Bool.eq_iff_iff,h3 j,hc]
 rw [hcc]
 exact hK
end
def TwoPost2 (w:World) (e:Ending) (w':World):Prop:=∃ g,e=.returned (.agg (twoC g).cells.toArray)∧CM w' (twoC g)∧Same w w'∧w.heap.size≤g
set_option maxHeartbeats 8000000 in
set_option maxRecDepth 100000 in
theorem twoQ2 (w:World):Calls Tryz.prog 15 #[] w (TwoPost2 w):=by
 have hz:=Blk.made w 27 z15.toArray
 have hk:=(Keep.refl (fun _=>False) w).alloc (.cells z15.toArray 27)
 have HZ:=hid hz
 have HK:=hid hk
 have HD:=hid (fun W=>rdefault_any W)
 unfold DfPost at HD
 simp only [z15] at hz hk
 clear hz hk
 go_enter Tryz.func15,Tryz.ntmps15
 go_upto_region 1 with fail
 go_upto_region 2 with (first
  | (go_at_call 35
     (with_reducible refine (HD.out _).mono ?_)
     rintro e w1 ⟨rfl,hk1⟩
     have HK1:=hid (HK.out.then hk1)
     have HZ1:=hid (HZ.out.keep hk1 (fun f=>f))
     have HZN:=hid (Blk.made w1 27 z15.toArray)
     clear hk1)
  | (refine wpList_store_row rfl _ (.tmp 1) (.tmp 2) rfl w1.heap.size dflt.cells.toArray rfl rfl _ _ HZN.out (by kernel_rfl) rfl (one_toArray (CF.one dflt)) ?_))
 have hL2:Blk ((w1.alloc (.cells z15.toArray 27)).setRow w1.heap.size dflt.cells.toArray) w1.heap.size 27 dflt.cells.toArray:=HZN.out.row _
 have hk2:Same w1 ((w1.alloc (.cells z15.toArray 27)).setRow w1.heap.size dflt.cells.toArray):=((Keep.refl (fun _=>False) w1).alloc _).trans (Keep.row _ _ _) (fun j hj e=>by have e2:j=w1.heap.size:=e;omega)
 have h01:=HZ1.out.lt
 simp only [z15] at hL2 hk2
 obtain ⟨g,hg⟩:∃ g,g=w1.heap.size:=⟨_,rfl⟩
 rw [←hg] at hL2 hk2 ⊢
 have HG:=hid (show w.heap.size<g by omega)
 have HL2:=hid hL2
 have HK2:=hid (HK1.out.then hk2)
 have HZ2:=hid (HZ1.out.keep hk2 (fun f=>f))
 clear hL2 hk2 hg h01 HZN
 generalize ((w1.alloc (.cells #[.int .i64 0,.slice none 0 0,.slice none 0 0,.slice none 0 0,.slice none 0 0,.int .i64 0,.int .i64 0,.int .i64 0,.int .i64 0,.int .i64 0,.int .i64 0,.int .i64 0,.int .i64 0,.int .i64 0,.int .i64 0] 27)).setRow g dflt.cells.toArray)=w2 at *
 have hlt:=HL2.out.lt
 have c0:w2.cell? ⟨g,0,none⟩=some (.int .i64 0):=HL2.out.at_ 0
 have f0:=HL2.out.free 0
 have c1:w2.cell? ⟨g,1,none⟩=some (.slice none 0 0):=HL2.out.at_ 1
 have f1:=HL2.out.free 1
 go_upto_region 3 with fail
 have hsz4:((w2.setCell ⟨g,0,none⟩ (.int .i64 2)).setCell ⟨g,1,none⟩ (.slice (some ⟨w2.heap.size,0,none⟩) 2 2)).heap.size=w2.heap.size:=by simp
 have hb4:=((HL2.out.put 0 (.int .i64 2)).put 1 (.slice (some ⟨w2.heap.size,0,none⟩) 2 2)).alloc (.cells #[.int .i64 0,.int .i64 1] 3)
 have hb4:Blk (((w2.setCell ⟨g,0,none⟩ (.int .i64 2)).setCell ⟨g,1,none⟩ (.slice (some ⟨w2.heap.size,0,none⟩) 2 2)).alloc (.cells #[.int .i64 0,.int .i64 1] 3)) g 27 (twoC w2.heap.size).cells.toArray:=hb4
 have hd4:=Blk.made ((w2.setCell ⟨g,0,none⟩ (.int .i64 2)).setCell ⟨g,1,none⟩ (.slice (some ⟨w2.heap.size,0,none⟩) 2 2)) 3 #[.int .i64 0,.int .i64 1]
 rw [hsz4] at hd4
 have hkp:Keep (fun i=>i=g) w2 ((w2.setCell ⟨g,0,none⟩ (.int .i64 2)).setCell ⟨g,1,none⟩ (.slice (some ⟨w2.heap.size,0,none⟩) 2 2)):=((Keep.refl (fun i=>i=g) _).put 0 _).put 1 _
 have hz4:=(HZ2.out.keep hkp (fun e=>by have e2:w.heap.size=g:=e;have:=HG.out;omega)).alloc (.cells #[.int .i64 0,.int .i64 1] 3)
 have hk4:Same w (((w2.setCell ⟨g,0,none⟩ (.int .i64 2)).setCell ⟨g,1,none⟩ (.slice (some ⟨w2.heap.size,0,none⟩) 2 2)).alloc (.cells #[.int .i64 0,.int .i64 1] 3)):=(HK2.out.trans hkp (fun j hj e=>by have e2:j=g:=e;have:=HG.out;omega)).alloc _
 obtain ⟨gd,hgd⟩:∃ x,x=w2.heap.size:=⟨_,rfl⟩
 rw [←hgd] at hb4 hd4 hz4 hk4 ⊢
 have HB4:=hid hb4
 have HZ4:=hid hz4
 have hwd:w.heap.size<gd:=by have:=HG.out;omega
 have HF:=hid (fun (W:World) (hk:Keep (fun i=>i=w.heap.size) (((w2.setCell ⟨g,0,none⟩ (.int .i64 2)).setCell ⟨g,1,none⟩ (.slice (some ⟨gd,0,none⟩) 2 2)).alloc (.cells #[.int .i64 0,.int .i64 1] 3)) W)=>show TwoPost2 w (.returned (.agg (twoC gd).cells.toArray)) W from by
  refine ⟨gd,rfl,?_,hk4.trans hk (fun j hj e=>by have e2:j=w.heap.size:=e;omega),Nat.le_of_lt hwd⟩
  have hdd:=hd4.keep hk (fun e=>by have e2:gd=w.heap.size:=e;omega)
  exact ⟨Sl.of_blk hdd (by rfl) (fun f=>f),Sl.nil _ _ _ _,Sl.nil _ _ _ _,Sl.nil _ _ _ _,(fun p hp=>by cases hp),(by show (2:Nat)≤maxLen;unfold maxLen;omega),Nat.zero_le maxLen,Nat.zero_le maxLen,Nat.zero_le maxLen,Nat.zero_le 0⟩)
 clear c0 f0 c1 f1 hb4 hkp hd4 hz4 hk4 hgd hsz4
 generalize (((w2.setCell ⟨g,0,none⟩ (.int .i64 2)).setCell ⟨g,1,none⟩ (.slice (some ⟨gd,0,none⟩) 2 2)).alloc (.cells #[.int .i64 0,.int .i64 1] 3))=w4 at *
 go_wp2_with (first
  | (refine wpList_load_row rfl _ (.tmp 1) rfl g rfl _ (twoC gd).cells.toArray (0,0) _ HB4.out Tryz.underlying27 rfl (by kernel_rfl) ?_)
  | (refine wpList_store_row rfl _ (.tmp 0) (.tmp 6) rfl w.heap.size (twoC gd).cells.toArray rfl rfl _ _ HZ4.out (by kernel_rfl) rfl (one_toArray (CF.one (twoC gd))) ?_))
 refine bodyPost_ret (results_cell_row rfl _ _ _ _ _ _ _ rfl (HZ4.out.row _) Tryz.underlying27 rfl (by kernel_rfl)) rfl ?_
 exact HF.out _ (Keep.row _ _ _)
theorem own_cap {w:World} {base:Nat} {e:TypeId} {size:Nat} {A:Option Addr} {n c:Nat} {xs:List Value} (h:Own w base e size (.slice A n c) n xs):n≤c:=by
 rcases h.2 with ⟨h1,h2⟩ | ⟨g,cap,cur,hv,hb,hh,h1,h2,h3,h4⟩
 ·omega
 ·injection hv with _ _ hc
  omega
set_option maxRecDepth 100000 in
theorem answersX_cap {w:World} {T:Tags} {p:PS} (h:PX w T p) {call:Int} {k:Nat} {x:RA} (hi:idx p.R.length call=some k) (hx:p.R[k]? = some x) (hl:p.R.length≤1000000) (ha:x.s.ans.length≤1000) :
 Calls Tryz.prog 21 #[.pointer (some ⟨p.x,0,none⟩),.int .i64 call] w (fun e w'=>∃ A c,e=.returned (.slice A x.s.ans.length c)∧Sl w' (· < w.heap.size) 1 A x.s.ans.length (icells x.s.ans)∧Same w w'∧x.s.ans.length≤c):=by
 have HF:=hid (find_some h hx (idx_some hi).1 hl)
 have hr:=h.recs k x hx
 have z0:w.cell? ⟨x.rb,0,none⟩=some (.pointer (some ⟨x.lb,0,none⟩)):=(hr.blk.at_ 0).trans rfl
 have HAN:=hid (answers_any w x.lb x.r x.A x.c x.s hr.line hr.line ha)
 unfold CopyPost at HAN
 clear h hi hx hr
 go_enter Tryz.func21,Tryz.ntmps21
 go_wp2_with (first
  | (go_at_call 38;(with_reducible refine HF.out.mono ?_);rintro e w1 ⟨rfl,rfl⟩)
  | (go_at_call 45;(with_reducible refine (HAN.out).mono ?_);rintro e w1 ⟨B,d,rfl,hs1,hk1⟩;have HS1:=hid hs1;have HK1:=hid hk1;clear hs1 hk1)
  | (at_builtin
     refine EIn.law2 (.const (.slice none 0 0)) (.tmp 15) (.slice none 0 0) B x.s.ans.length d rfl rfl rfl rfl w1.heap.size 0 [] (icells x.s.ans) x.s.ans.length _ (Nat.zero_add _) rfl (Own.nil _ _ _ _) (by rw [icells_len];omega) (HS1.out.src (Keep.refl (fun _=>False) _)) (icells_one _) (by omega) (by unfold maxLen;omega) (Nat.le_refl _) ?_
     intro A2 c2 w2 ho hg hw
     have HK2:=hid ((Keep.refl (fun _=>False) w1).app (Own.nil w1 w1.heap.size 3 1) hg (fun g h1 h2=>by omega))
     have HO:=hid ho
     clear ho hg hw))
 go_ret
 exact ⟨A2,c2,rfl,HO.out.sl (fun g hg=>by have:=HK1.out.size;omega),HK1.out.then HK2.out,own_cap HO.out⟩
theorem JJ.twoK {w:World} {T:Tags} {p:PS} {q:QS} {c:CF} {b k:Nat} (J:JJ w T p q c b) (hk:k<q.R.length):∃ (x:QA) (y:RA),q.R[k]? = some x∧p.R[k]? = some y∧y.s=x.s∧q.pt.L[k]? = some x.pt:=by
 obtain ⟨x,hx⟩:=get_some hk
 have hl:q.pt.L[k]? = some x.pt:=by simp [QS.pt,hx]
 obtain ⟨y,hy,hyp⟩:=ps_line J.eq hl
 exact ⟨x,y,hx,hy,congrArg Ln.s hyp,hl⟩
def wasV (s:CL) (A:Option Addr) (c:Nat):Value:=.agg #[.int .i64 s.ep,.int .i64 s.st,.slice A s.ans.length c]
def was0:Value:=.agg #[.int .i64 0,.int .i64 0,.slice none 0 0]
theorem zeroW (w:World):(zeroValue 83).run Tryz.prog w=.ok was0 w:=by kernel_rfl
theorem was_one (a b:Int) (A:Option Addr) (n c:Nat):(#[.int .i64 a,.int .i64 b,.slice A n c]:Array Value).all (·.oneCell')=true:=one_toArray (cs:=[.int .i64 a,.int .i64 b,.slice A n c]) (fun u hu=>by
 simp only [List.mem_cons,List.not_mem_nil,or_false] at hu
 rcases hu with rfl | rfl | rfl <;> rfl)
def KnownAt (wr:World) (T:Tags) (X:XS) (k:Int) (v:Value):Prop:=∃ (i:Nat) (s:CL) (A:Option Addr) (c:Nat) (m:Ln),k=(i:Int)+1∧v=wasV s A c∧Sl wr (fun i=>T i≠none) 1 A s.ans.length (icells s.ans)∧X.L[i]? = some m∧Kept s m.s
structure KI (w wr:World) (T:Tags) (p:PS) (q:QS) (c:CF) (l:List AT) (j x0 gy mb n:Nat) (K:List Int) (f:Int→Value):Prop where
 jj:JJ wr T p q c j
 px:p.x=x0
 pt:q.pt=runX (newX c) (l.take j)
 ty:T gy=some .rsv
 tm:T mb=some .rsv
 ne:gy≠mb
 blk:Blk wr gy 35 q.cells.toArray
 map:GMap wr mb n was0 K f
 new:∀ i,T i≠none→w.heap.size≤i
 same:Same w wr
 known:∀ k∈K,KnownAt wr T q.pt k (f k)
 zero:∀ k,k ∉ K→f k=was0
theorem KI.keep {w wr W:World} {T:Tags} {p:PS} {q:QS} {c:CF} {l:List AT} {j x0 gy mb n:Nat} {K:List Int} {f:Int→Value} (h:KI w wr T p q c l j x0 gy mb n K f) (hk:Same wr W):KI w W T p q c l j x0 gy mb n K f :=
 ⟨h.jj.same hk,h.px,h.pt,h.ty,h.tm,h.ne,h.blk.keep hk (fun f=>f),h.map.keep hk (fun f=>f),h.new,h.same.then hk,fun k hk2=>by
  obtain ⟨i,s,A,cc,m,h1,h2,h3,h4⟩:=h.known k hk2
  exact ⟨i,s,A,cc,m,h1,h2,h3.same hk,h4⟩,h.zero⟩
theorem KI.act {w wr W:World} {T T':Tags} {p p':PS} {q q':QS} {c:CF} {l:List AT} {j x0 gy mb n:Nat} {K:List Int} {f:Int→Value} {S:Nat→Prop} {a:AT} (h:KI w wr T p q c l j x0 gy mb n K f) (ha:l[j]? = some a)
 (hj:JJ W T' p' q' c (j+1)) (hx:p'.x=x0) (hq:q'.pt=actX q.pt a (bodyA a)) (hm:Mv wr T W T' S) (hS:∀ i,S i→T.on i):KI w (W.setRow gy q'.cells.toArray) T' p' q' c l (j+1) x0 gy mb n K f:=by
 have hkr:Keep (fun i=>i=gy) W (W.setRow gy q'.cells.toArray):=Keep.row _ _ _
 have hty:T' gy=some .rsv:=(hm.old _ h.blk.lt).trans h.ty
 have htm:T' mb=some .rsv:=(hm.old _ h.map.lt).trans h.tm
 have hgw:w.heap.size≤gy:=h.new gy (by rw [h.ty];exact fun h=>by cases h)
 have hmp:=Mv.put (T:=T') hj.px.lt hkr
 have hgr:∀ i,i=gy→T' i=some .rsv:=fun i e=>by rw [e];exact hty
 refine ⟨hj.mvR hmp hgr,hx,by rw [hq,h.pt,runX_take ha],hty,htm,h.ne,(h.blk.keep hm.keep (fun hs=>Tags.rsv_off h.ty (hS _ hs))).row _,
  (h.map.keep hm.keep (fun hs=>Tags.rsv_off h.tm (hS _ hs))).keep hkr (fun e=>h.ne (show mb=gy from e).symm),fun i hi=>?_,?_,fun k hk=>?_,h.zero⟩
 ·rcases hm.new i hi with e | e
  ·exact h.new i e
  ·exact Nat.le_trans h.same.size e
 ·exact (h.same.trans hm.keep (fun i hi hs=>by have:=h.new i (hS i hs).1;omega)).trans hkr (fun i hi e=>by have e2:i=gy:=e;omega)
 ·obtain ⟨i,s,A,cc,m,h1,h2,h3,h4,h5⟩:=h.known k hk
  obtain ⟨m',hm',ev⟩:=(LEvo.act (N:=1099511627776) h.jj.ok a (bodyA a) (fun hv=>(vN_true hv).2)).old i m h4
  exact ⟨i,s,A,cc,m',h1,h2,hmp.slice (fun i e=>by rw [hgr i e];exact fun h=>by cases h) (hm.slice (fun i hs=>(hS i hs).1) h3),by rw [hq];exact hm',h5.trans ev.kept⟩
theorem KI.note {w wr W:World} {T:Tags} {p:PS} {q:QS} {c:CF} {l:List AT} {j x0 gy mb n:Nat} {K:List Int} {f:Int→Value} (h:KI w wr T p q c l j x0 gy mb n K f) {i:Nat} {x:QA} {A:Option Addr} {cc:Nat} (hx:q.R[i]? = some x)
 (hs:Sl wr (fun i=>T i≠none) 1 A x.s.ans.length (icells x.s.ans)) (hk:Keep (fun i=>i=mb) wr W) (hm:GMap W mb (n+1) was0 (addK K ((i:Int)+1)) (fun k=>if k=(i:Int)+1 then wasV x.s A cc else f k)) :
 KI w W T p q c l j x0 gy mb (n+1) (addK K ((i:Int)+1)) (fun k=>if k=(i:Int)+1 then wasV x.s A cc else f k):=by
 have hmr:∀ i,i=mb→T i=some .rsv:=fun i e=>by rw [e];exact h.tm
 have hmn:∀ i,i=mb→T i≠none:=fun i e=>by rw [hmr i e];exact fun h=>by cases h
 have hmp:=Mv.put (T:=T) h.jj.px.lt hk
 refine ⟨h.jj.mvR hmp hmr,h.px,h.pt,h.ty,h.tm,h.ne,h.blk.keep hk h.ne,hm,h.new,h.same.trans hk (fun i hi e=>by have:=h.new i (hmn i e);omega),fun k hkk=>?_,fun k hkk=>?_⟩
 ·by_cases e:k=(i:Int)+1
  ·exact ⟨i,x.s,A,cc,x.pt,e,by rw [if_pos e],hmp.slice hmn hs,by simp [QS.pt,hx],Kept.refl _⟩
  ·obtain ⟨i2,s,A2,c2,m,h1,h2,h3,h4⟩:=h.known k (((addK_mem K _ k).1 hkk).resolve_left e)
   exact ⟨i2,s,A2,c2,m,h1,by rw [if_neg e];exact h2,hmp.slice hmn h3,h4⟩
 ·have h1:=fun q=>hkk ((addK_mem K _ k).2 q)
  rw [if_neg (fun e=>h1 (.inl e))]
  exact h.zero k (fun q=>h1 (.inr q))
theorem KI.le {w wr:World} {T:Tags} {p:PS} {q:QS} {c:CF} {l:List AT} {j x0 gy mb n:Nat} {K:List Int} {f:Int→Value} (h:KI w wr T p q c l j x0 gy mb n K f):K.length≤q.R.length:=by
 rw [←callsN_len q.R.length]
 refine nodup_le h.map.nodup (fun k hk=>?_)
 obtain ⟨i,_,_,_,m,rfl,_,_,h4,_⟩:=h.known k hk
 have h1:=(List.getElem?_eq_some_iff.1 h4).1
 have h2:q.pt.L.length=q.R.length:=by simp [QS.pt]
 exact List.mem_map.2 ⟨i,List.mem_range.2 (by omega),rfl⟩
set_option maxHeartbeats 8000000 in
set_option maxRecDepth 100000 in
theorem keeps_walk (w:World) (B:Option Addr) (cb:Nat) (l:List AT) (hl:ATs w (fun _=>False) B l) (hn:l.length≤maxLen):Calls Tryz.prog 6 #[.slice B l.length cb] w (fun e w'=>e=.returned (.bool true)∧Same w w'):=by
 have HFE:=hid (fewQ w (fun _=>False) B cb l hl hn)
 have HAW:=hid awakeQ
 have HL:=hid hl
 clear hl hn
 cases hfw:fewB l with
 | false =>
   have HFW:=hid hfw
   clear hfw
   go_enter Tryz.func6,Tryz.ntmps6
   go_wp2_with (first
    | (go_at_call 26;(with_reducible refine HFE.out.mono ?_);rintro e w1 ⟨rfl,hk1⟩;rw [HFW.out];have HK1:=hid hk1;clear hk1)
    | (go_at_call 10;(with_reducible refine (HAW.out _).mono ?_);rintro e w9 ⟨rfl,hk9⟩;have HK9:=hid hk9;clear hk9))
   go_ret
   exact ⟨rfl,HK1.out.then HK9.out⟩
 | true =>
   have HFW:=hid hfw
   have hl40:l.length≤40∧∀ a∈l,fewA a=true:=by
    unfold fewB at hfw
    simp only [Bool.and_eq_true,decide_eq_true_eq,List.all_eq_true] at hfw
    exact ⟨hfw.2,hfw.1⟩
   have HL40:=hid hl40
   have hl4:(l.length:Int)≤40:=by omega
   have HTQ:=hid twoQ2
   unfold TwoPost2 at HTQ
   have HNB:=hid (fun W g (hm:CM W (twoC g))=>show Calls Tryz.prog 27 #[.agg (twoC g).cells.toArray] W (fun e w'=>∃ T p,e=.returned (.tuple #[.pointer (some ⟨p.x,0,none⟩),.int .i64 0])∧p.pt=newX (twoC g)∧NewBt W w' T p) from (newB_any W _ hm).mono (fun e w' hh=>by
    rcases hh with hh | hh
    ·exact hh.2
    ·exact absurd (two_v g) hh.1))
   have HNQ:=hid (fun W g (hm:CM W (twoC g))=>show Calls Tryz.prog 28 #[.agg (twoC g).cells.toArray] W (fun e w'=>∃ q:QS,e=.returned (.tuple #[.agg q.cells.toArray,.int .i64 0])∧RX w' (fun i=>i<W.heap.size) q∧q.pt=newX (twoC g)∧q.c=twoC g∧Same W w') from (newQ_any W _ hm).mono (fun e w' hh=>by
    rcases hh with hh | hh
    ·exact hh.2
    ·exact absurd (two_v g) hh.1))
   clear hfw hl40
   go_enter Tryz.func6,Tryz.ntmps6
   go_upto_region 4 with (first
    | (go_at_call 26;(with_reducible refine HFE.out.mono ?_);rintro e w1 ⟨rfl,hk1⟩;rw [HFW.out];have HK1:=hid hk1;clear hk1)
    | (go_at_call 15;(with_reducible refine (HTQ.out _).mono ?_);rintro e w2 ⟨g1,rfl,hcm,hk2,_⟩;have HCM1:=hid hcm;have HK2:=hid hk2;clear hcm hk2)
    | (go_at_call 27;(with_reducible refine (HNB.out _ _ HCM1.out).mono ?_);rintro e w3 ⟨T0,p,rfl,hp3,hn3⟩;have HP3:=hid hp3;have HN3:=hid hn3;clear hp3 hn3))
   go_upto_region 5 with (first
    | (go_at_call 15;(with_reducible refine (HTQ.out _).mono ?_);rintro e w4 ⟨g2,rfl,hcm,hk4,hg4⟩;have HCM2:=hid hcm;have HK4:=hid hk4;have HG4:=hid hg4;clear hcm hk4 hg4)
    | (go_at_call 28;(with_reducible refine (HNQ.out _ _ HCM2.out).mono ?_);rintro e w5 ⟨q,rfl,hr5,hq5,hc5,hk5⟩;have HR5:=hid hr5;have HQ5:=hid hq5;have HC5:=hid hc5;have HK5:=hid hk5;have HZN:=hid (Blk.made w5 35 #[.int .i64 0,.slice none 0 0,.slice none 0 0,.slice none 0 0,.slice none 0 0,.int .i64 0,.int .i64 0,.int .i64 0,.int .i64 0,.int .i64 0,.int .i64 0,.int .i64 0,.int .i64 0,.int .i64 0,.int .i64 0,.slice none 0 0,.slice none 0 0,.slice none 0 0,.slice none 0 0,.slice none 0 0]);clear hr5 hq5 hc5 hk5)
    | (refine wpList_store_row rfl _ (.tmp 5) (.tmp 31) rfl w5.heap.size q.cells.toArray rfl rfl _ _ HZN.out (by kernel_rfl) rfl (one_toArray (q_one q)) ?_))
   have hL6:Blk ((w5.alloc (.cells #[.int .i64 0,.slice none 0 0,.slice none 0 0,.slice none 0 0,.slice none 0 0,.int .i64 0,.int .i64 0,.int .i64 0,.int .i64 0,.int .i64 0,.int .i64 0,.int .i64 0,.int .i64 0,.int .i64 0,.int .i64 0,.slice none 0 0,.slice none 0 0,.slice none 0 0,.slice none 0 0,.slice none 0 0] 35)).setRow w5.heap.size q.cells.toArray) w5.heap.size 35 q.cells.toArray:=HZN.out.row _
   have hk6:Same w5 ((w5.alloc (.cells #[.int .i64 0,.slice none 0 0,.slice none 0 0,.slice none 0 0,.slice none 0 0,.int .i64 0,.int .i64 0,.int .i64 0,.int .i64 0,.int .i64 0,.int .i64 0,.int .i64 0,.int .i64 0,.int .i64 0,.int .i64 0,.slice none 0 0,.slice none 0 0,.slice none 0 0,.slice none 0 0,.slice none 0 0] 35)).setRow w5.heap.size q.cells.toArray):=((Keep.refl (fun _=>False) w5).alloc _).trans (Keep.row _ _ _) (fun j hj e=>by have e2:j=w5.heap.size:=e;omega)
   obtain ⟨gy,hgy⟩:∃ g,g=w5.heap.size:=⟨_,rfl⟩
   rw [←hgy] at hL6 hk6 ⊢
   generalize hw6:((w5.alloc (.cells #[.int .i64 0,.slice none 0 0,.slice none 0 0,.slice none 0 0,.slice none 0 0,.int .i64 0,.int .i64 0,.int .i64 0,.int .i64 0,.int .i64 0,.int .i64 0,.int .i64 0,.int .i64 0,.int .i64 0,.int .i64 0,.slice none 0 0,.slice none 0 0,.slice none 0 0,.slice none 0 0,.slice none 0 0] 35)).setRow gy q.cells.toArray)=w6 at *
   clear hw6
   obtain ⟨mb,hmb⟩:∃ b,b=w6.heap.size:=⟨_,rfl⟩
   have hm0:=GMap.made w6 was0
   have hk7:Same w6 (w6.alloc (.map #[] 0)):=(Keep.refl _ _).alloc _
   have hgl:gy<mb:=by rw [hmb];exact hL6.lt
   rw [←hmb] at hm0
   have h34:w3.heap.size≤w4.heap.size∧w4.heap.size≤w5.heap.size∧w2.heap.size≤w3.heap.size∧w.heap.size≤w2.heap.size:=⟨HK4.out.size,HK5.out.size,HN3.out.same.size,(HK1.out.then HK2.out).size⟩
   have hTl:=HN3.out.px.lt
   have hTn:=HN3.out.new
   obtain ⟨T,hT⟩:∃ T:Tags,T=fun i=>if i=gy∨i=mb then some .rsv else T0 i:=⟨_,rfl⟩
   have hTof:∀ i,T0 i≠none→T i=T0 i:=fun i hi=>by
    have h2:=hTl i hi
    rw [hT]
    show (if _ then _ else _)=_
    rw [if_neg (by omega)]
   have hTav:∀ i,T i≠none→i=gy∨i=mb∨T0 i≠none:=fun i hi=>by
    rw [hT] at hi
    by_cases e:i=gy∨i=mb
    ·exact e.elim .inl (fun e=>.inr (.inl e))
    ·have hi:(if i=gy∨i=mb then some Tag.rsv else T0 i)≠none:=hi
     rw [if_neg e] at hi;exact .inr (.inr hi)
   have hplen:p.R=[]∧p.out=[]:=by
    have h1:=congrArg XS.L HP3.out
    have h2:=congrArg XS.out HP3.out
    exact ⟨List.map_eq_nil_iff.1 h1,List.map_eq_nil_iff.1 h2⟩
   have hk37:=((HK4.out.then HK5.out).then hk6).then hk7
   have hs7:(w6.alloc (.map #[] 0)).heap.size=mb+1:=by rw [World.size_alloc,hmb]
   have hpx:=(HN3.out.px.same hk37).retag hTof hplen.1 hplen.2 ((HN3.out.fr.wide (Av':=fun i=>T i≠none) (fun i hi ht=>by
    rcases hTav i ht with e | e | e
    ·omega
    ·omega
    ·exact .inr e)).same hk37) (fun i hi=>by
    rcases hTav i hi with e | e | e
    ·omega
    ·omega
    ·exact Nat.lt_of_lt_of_le (hTl i e) hk37.size)
   have hrx:RX (w6.alloc (.map #[] 0)) (fun i=>T i≠none) q:=((HR5.out.wide (Av':=fun i=>T i≠none) (fun i hi ht=>by
    show i<w4.heap.size
    rcases hTav i ht with e | e | e
    ·omega
    ·omega
    ·have:=hTl i e;omega)).same hk6).same hk7
   have hnew:∀ i,T i≠none→w.heap.size≤i:=fun i hi=>by
    rcases hTav i hi with e | e | e
    ·omega
    ·omega
    ·have:=hTn i e;omega
   have hqn:q.R=[]∧q.out=[]∧q.ev=[]:=by
    have h1:=congrArg XS.L HQ5.out
    have h2:=congrArg XS.out HQ5.out
    exact ⟨List.map_eq_nil_iff.1 h1,List.map_eq_nil_iff.1 h2,congrArg XS.ev HQ5.out⟩
   have hdis:Sl w4 (fun i=>T i≠none) 1 (twoC g2).D (twoC g2).dis.length (icells (twoC g2).dis):=by
    have h:=HCM2.out.dis
    refine ⟨h.len,fun hn=>?_⟩
    obtain ⟨b,off,e,k1,_,k3⟩:=h.at_ hn
    refine ⟨b,off,e,k1,fun ht=>?_,k3⟩
    have e:some (⟨g2,0,none⟩:Addr)=some ⟨b,off,none⟩:=e
    injection e with e
    injection e with e1 _ _
    have hg:=HG4.out
    rcases hTav b ht with e2 | e2 | e2
    ·omega
    ·omega
    ·have:=hTl b e2;omega
   have hjj:JJ (w6.alloc (.map #[] 0)) T p q (twoC g2) 0:=⟨hpx,hrx,by rw [HP3.out,HQ5.out];rfl,by rw [HQ5.out];exact newX_ok (two_v g2),by rw [HQ5.out];exact newX_own _,HC5.out,(hdis.same ((HK5.out.then hk6).then hk7)),(by show 2≤4096;omega),by rw [hqn.1,hqn.2.1,hqn.2.2];simp⟩
   have HKI:=hid (show KI w (w6.alloc (.map #[] 0)) T p q (twoC g2) l 0 p.x gy mb 0 [] (fun _=>was0) from ⟨hjj,rfl,HQ5.out,by rw [hT];exact if_pos (.inl rfl),by rw [hT];exact if_pos (.inr rfl),by omega,hL6.keep hk7 (fun f=>f),hm0,hnew,(((HK1.out.then HK2.out).then HN3.out.same).then hk37),fun k hk=>by (cases hk),fun _ _=>rfl⟩)
   have HAL:=hid (fun (W:World) (Tx:Tags) (hk:Same w W) (hx:∀ i,Tx i≠none→w.heap.size≤i)=>show ATs W (fun i=>Tx i≠none) B l from (HL.out.wide (Av':=fun i=>Tx i≠none) (fun i hi ht=>by have:=hx i ht;omega)).same hk)
   obtain ⟨x0,hx0⟩:∃ x0,x0=p.x:=⟨_,rfl⟩
   rw [←hx0] at HKI ⊢
   have hmm:=@run_makeMap Tryz.prog
   clear hx0 hjj hdis hqn hnew hrx hpx hs7 hk37 hplen hTav hTof hT hTn hTl h34 hgl hk7 hm0 hgy hk6 hL6 HZN HR5 HQ5 HC5 HK5 HCM1 HCM2 HK4 HG4 HN3 HP3 HNB HNQ HTQ HK1 HK2 HFE HL
   go_upto_region 8 with fail
   rw [←hmb]
   clear hmm hmb
   generalize (w6.alloc (.map #[] 0))=w7 at *
   go_wp2_with fail
   go_loopw [46] (fun i wr=>∃ (j:Nat) (T:Tags) (p:PS) (q:QS) (n:Nat) (K:List Int) (f:Int→Value),j≤l.length∧i=.int .i64 j∧n≤50 * j∧Hid (KI w wr T p q (twoC g2) l j x0 gy mb n K f)) (fun i _=>l.length - (RowKit.intOf i).toNat)
   case atStart=>exact ⟨0,T,p,q,0,[],_,Nat.zero_le _,rfl,Nat.le_refl _,HKI⟩
   case round =>
    obtain ⟨j,T3,p3,q3,n,K,f,hj,rfl,hnj,HI⟩:=hrel
    have hj0:(0:Int)≤(j:Int):=Int.natCast_nonneg _
    have hjb:j≤40:=by have:=HL40.out.1;omega
    by_cases hjn:j<l.length
    ·have hj1:(j:Int)<(l.length:Int):=by omega
     obtain ⟨a,ha⟩:=get_some hjn
     have hal:=HAL.out wr T3 HI.out.same HI.out.new
     obtain ⟨b1,o1,hB1,_,_,hr1⟩:=hal.sl.at_ (by omega)
     have HR1:=hid (range_at hr1 ha)
     have HAT:=hid (hal.el a (List.mem_of_getElem? ha))
     have HFA:=hid (HL40.out.2 a (List.mem_of_getElem? ha))
     have HA:=hid ha
     subst hB1
     have HZA:=hid (Blk.made wr 63 #[.int .i64 0,.int .i64 0,.slice none 0 0,.int .i64 0,.int .i64 0,.int .i64 0,.int .i64 0,.int .i64 0,.int .i64 0,.int .i64 0,.int .i64 0,.slice none 0 0,.int .i64 0,.int .i64 0,.slice none 0 0,.int .i64 0])
     clear ha hal hr1 HKI
     go_upto_region 11 with (first
      | (refine wpList_load_mid rfl _ (.tmp 48) rfl b1 (o1+j * 16) rfl a.cells _ HR1.out Tryz.underlying63 rfl (by kernel_rfl) ?_)
      | (refine wpList_store_row rfl _ (.tmp 9) (.tmp 49) rfl wr.heap.size a.cells.toArray rfl rfl _ _ HZA.out (by kernel_rfl) rfl (one_toArray (at_one a)) ?_))
     have hL3:Blk ((wr.alloc (.cells #[.int .i64 0,.int .i64 0,.slice none 0 0,.int .i64 0,.int .i64 0,.int .i64 0,.int .i64 0,.int .i64 0,.int .i64 0,.int .i64 0,.int .i64 0,.slice none 0 0,.int .i64 0,.int .i64 0,.slice none 0 0,.int .i64 0] 63)).setRow wr.heap.size a.cells.toArray) wr.heap.size 63 a.cells.toArray:=HZA.out.row _
     have hk3:Same wr ((wr.alloc (.cells #[.int .i64 0,.int .i64 0,.slice none 0 0,.int .i64 0,.int .i64 0,.int .i64 0,.int .i64 0,.int .i64 0,.int .i64 0,.int .i64 0,.int .i64 0,.slice none 0 0,.int .i64 0,.int .i64 0,.slice none 0 0,.int .i64 0] 63)).setRow wr.heap.size a.cells.toArray):=((Keep.refl (fun _=>False) wr).alloc _).trans (Keep.row _ _ _) (fun j hj e=>by have e2:j=wr.heap.size:=e;omega)
     obtain ⟨ga,hga⟩:∃ g,g=wr.heap.size:=⟨_,rfl⟩
     rw [←hga] at hL3 hk3 ⊢
     have HLA:=hid hL3
     have HI3:=hid (HI.out.keep hk3)
     have HAT3:=hid (HAT.out.same hk3)
     clear hga hL3 hk3 HZA HR1
     generalize ((wr.alloc (.cells #[.int .i64 0,.int .i64 0,.slice none 0 0,.int .i64 0,.int .i64 0,.int .i64 0,.int .i64 0,.int .i64 0,.int .i64 0,.int .i64 0,.int .i64 0,.slice none 0 0,.int .i64 0,.int .i64 0,.slice none 0 0,.int .i64 0] 63)).setRow ga a.cells.toArray)=wx at *
     have HDO:=hid (doJ HI3.out.jj (by omega) a HAT3.out HFA.out)
     unfold DoP at HDO
     rw [HI3.out.px] at HDO
     go_upto_region 12 with (first
      | (refine wpList_load_row rfl _ (.tmp 5) rfl gy rfl _ q3.cells.toArray (0,0) _ HI3.out.blk Tryz.underlying35 rfl (by kernel_rfl) ?_)
      | (refine wpList_load_row rfl _ (.tmp 9) rfl ga rfl _ a.cells.toArray (0,0) _ HLA.out Tryz.underlying63 rfl (by kernel_rfl) ?_)
      | (go_at_call 29
         (with_reducible refine HDO.out.mono ?_)
         rintro e w8 ⟨T8,p8,q8,S8,rfl,hj8,hx8,hq8,m8,hS8⟩
         have HNX:=hid (HI3.out.act HA.out hj8 hx8 hq8 m8 hS8)
         have HY8:=hid (HI3.out.blk.keep m8.keep (fun h=>Tags.rsv_off HI3.out.ty (hS8 _ h)))
         clear hj8 hx8 hq8 m8 hS8)
      | (refine wpList_store_row rfl _ (.tmp 5) (.tmp 55) rfl gy q8.cells.toArray rfl rfl _ _ HY8.out (by kernel_rfl) rfl (one_toArray (q_one q8)) ?_))
     clear HDO HY8 HI3 HAT3 HLA HAT HFA HA HI
     generalize (w8.setRow gy q8.cells.toArray)=wz at *
     obtain ⟨m,hm⟩:∃ m,m=q8.R.length:=⟨_,rfl⟩
     have hpm:p8.R.length=m:=by rw [hm];exact HNX.out.jj.lens.1
     have hm41:m≤41:=by have:=HNX.out.jj.n.1;omega
     have hKm:K.length≤m:=by rw [hm];exact HNX.out.le
     have HCA:=hid (callsX HNX.out.jj.px (by omega))
     unfold NI at HCA
     rw [HNX.out.px,hpm,callsN_len] at HCA
     have HM:=hid (And.intro hm hpm)
     have dkl:decide ((m:Int)<(K.length:Int))=false:=decide_eq_false (by omega)
     have dkm:decide (m<K.length)=false:=decide_eq_false (by omega)
     clear hm hpm
     go_upto_region 13 with (go_at_call 30;(with_reducible refine HCA.out.mono ?_);rintro e wy ⟨A1,c1,rfl,hs1,hk1⟩;have HSA:=hid (hs1.wide (Av':=fun i=>T8 i≠none) (fun i _ ht=>HNX.out.jj.px.lt i ht));have HKY:=hid (HNX.out.keep hk1);clear hs1 hk1)
     clear HCA HNX
     have hm42:(m:Int)≤41:=by omega
     go_wp2_with (first
      | (at_len
         refine glen rfl _ 77 83 Tryz.underlying77 rfl mb n was0 K f rfl HKY.out.map ?_))
     go_loopw [66] (fun i wb=>∃ (i2 n2:Nat) (K2:List Int) (f2:Int→Value),i2≤m∧i=.int .i64 i2∧n2≤50 * j+i2∧Hid (KI w wb T8 p8 q8 (twoC g2) l (j+1) x0 gy mb n2 K2 f2∧Sl wb (fun i=>T8 i≠none) 1 A1 m (icells (callsN m)))) (fun i _=>m - (RowKit.intOf i).toNat)
     case atStart=>exact ⟨0,n,K,f,Nat.zero_le _,rfl,by omega,hid ⟨HKY.out,HSA.out⟩⟩
     case round =>
      obtain ⟨i2,n2,K2,f2,hi2,rfl,hn2,HI2⟩:=hrel
      have hi20:(0:Int)≤(i2:Int):=Int.natCast_nonneg _
      by_cases him:i2<m
      ·have him1:(i2:Int)<(m:Int):=by omega
       obtain ⟨b1,o1,hB1,_,y1⟩:=int_at HI2.out.2 (k:=i2) (a:=(i2:Int)+1) (by simp [callsN,him])
       subst hB1
       obtain ⟨x,y,hx,hy,hys,hl⟩:=HI2.out.1.jj.twoK (k:=i2) (by rw [←HM.out.1];exact him)
       have hix:idx p8.R.length ((i2:Int)+1)=some i2:=idx_at (by rw [HM.out.2];exact him)
       have hpl:p8.R.length≤1000000:=by rw [HM.out.2];omega
       have hal:x.s.ans.length≤200:=(HI2.out.1.jj.ok.ln i2 x.pt hl).1.vl.n
       have hown:(0≤x.s.cen∧x.s.cen<2)∧1≤x.s.ep:=by
        have h1:=hl
        rw [HI2.out.1.pt] at h1
        exact (run_lines (two_v g2) (by rw [List.length_take];omega) h1).2.2
       have HOW:=hid (ownerX_some HI2.out.1.jj.px hix hy hpl)
       have HAN:=hid (fun W (hk:Same wr W)=>answersX_cap (HI2.out.1.jj.px.same hk) hix hy hpl (by rw [hys];omega))
       have HST:=hid (fun W (hk:Same wr W)=>(stateX_some (HI2.out.1.jj.px.same hk) hix hy hpl).mono (fun e w' h=>(⟨h.1,by rw [←h.2];exact Keep.refl _ _⟩:e=.returned (.int .i64 y.s.st)∧Same W w')))
       rw [hys,HI2.out.1.px] at HOW HAN HST
       have HX:=hid hx
       have HL2:=hid hl
       have HAL:=hid hal
       have dc0:decide (x.s.cen<0)=false:=decide_eq_false (by omega)
       have dc1:decide (1<x.s.cen)=false:=decide_eq_false (by omega)
       have de1:decide (x.s.ep<1)=false:=decide_eq_false (by omega)
       have HPL:=hid (fun i (ht:T8 i≠none)=>HI2.out.1.jj.px.lt i ht)
       clear hx hy hys hl hix hpl hal hown
       by_cases hk:((i2:Int)+1)∈K2
       ·obtain ⟨i3,s0,A0,c0,mm,hki,hfv,hsl0,hm3,hkp⟩:=HI2.out.1.known _ hk
        obtain rfl:i3=i2:=by omega
        rw [HL2.out] at hm3
        injection hm3 with hm3
        subst hm3
        have hkp:Kept s0 x.s:=hkp
        obtain ⟨xs,hxs⟩:=hkp.ans
        have hlen:s0.ans.length≤x.s.ans.length:=by rw [hxs,List.length_append];omega
        have hep:=hkp.ep
        have de2:decide (x.s.ep<s0.ep)=false:=decide_eq_false (by omega)
        have dl1:decide ((x.s.ans.length:Int)<(s0.ans.length:Int))=false:=decide_eq_false (by omega)
        have dl2:decide (x.s.ans.length<s0.ans.length)=false:=decide_eq_false (by omega)
        have HXS:=hid hxs
        have HLE:=hid hlen
        have HCL:=hid hkp.closed
        have HSL0:=hid hsl0
        have HFV:=hid (show f2 ((i3:Int)+1)=.agg #[.int .i64 s0.ep,.int .i64 s0.st,.slice A0 s0.ans.length c0] from hfv)
        have HKK:=hid hk
        clear hki hfv hsl0 hkp hxs hep hlen hk
        go_upto_region 21 with (first
         | (go_at_call 31;(with_reducible refine HOW.out.mono ?_);rintro e w4 ⟨rfl,hk4⟩;have HK4:=hid hk4;clear hk4)
         | (go_at_call 21;(with_reducible refine (HAN.out _ HK4.out).mono ?_);rintro e w5 ⟨A5,c5,rfl,hs5,hk5,hc5⟩;have HS5:=hid (hs5.wide (Av':=fun i=>T8 i≠none) (fun i _ ht=>Nat.lt_of_lt_of_le (HPL.out i ht) HK4.out.size));have HK5:=hid (HK4.out.then hk5);have HC5:=hid hc5;have HZW:=hid (Blk.made w5 83 #[.int .i64 0,.int .i64 0,.slice none 0 0]);have HG5:=hid (HI2.out.1.map.keep HK5.out (fun f=>f));clear hs5 hk5 hc5)
         | (at_lookup
            refine glook_ok rfl _ _ 77 83 Tryz.underlying77 rfl mb n2 was0 (zeroW _) K2 f2 rfl HG5.out ((i3:Int)+1) rfl (wf64 (by omega) (by omega)) (.agg #[.int .i64 s0.ep,.int .i64 s0.st,.slice A0 s0.ans.length c0]) HFV.out true (iff_of_true rfl HKK.out) ?_)
         | (refine wpList_store_row rfl _ (.tmp 17) (.tmp 84) rfl w5.heap.size #[.int .i64 s0.ep,.int .i64 s0.st,.slice A0 s0.ans.length c0] rfl rfl _ _ HZW.out (by kernel_rfl) rfl (was_one _ _ _ _ _) ?_))
        have hLW:Blk ((w5.alloc (.cells #[.int .i64 0,.int .i64 0,.slice none 0 0] 83)).setRow w5.heap.size #[.int .i64 s0.ep,.int .i64 s0.st,.slice A0 s0.ans.length c0]) w5.heap.size 83 #[.int .i64 s0.ep,.int .i64 s0.st,.slice A0 s0.ans.length c0]:=HZW.out.row _
        have hk6:Same w5 ((w5.alloc (.cells #[.int .i64 0,.int .i64 0,.slice none 0 0] 83)).setRow w5.heap.size #[.int .i64 s0.ep,.int .i64 s0.st,.slice A0 s0.ans.length c0]):=((Keep.refl (fun _=>False) w5).alloc _).trans (Keep.row _ _ _) (fun j hj e=>by have e2:j=w5.heap.size:=e;omega)
        obtain ⟨gw,hgw⟩:∃ g,g=w5.heap.size:=⟨_,rfl⟩
        rw [←hgw] at hLW hk6 ⊢
        have HLW:=hid hLW
        have HK6:=hid (HK5.out.then hk6)
        have HS6:=hid (HS5.out.same hk6)
        clear hgw hLW hk6 HZW HG5 HOW
        generalize ((w5.alloc (.cells #[.int .i64 0,.int .i64 0,.slice none 0 0] 83)).setRow gw #[.int .i64 s0.ep,.int .i64 s0.st,.slice A0 s0.ans.length c0])=w6 at *
        have u0:w6.cell? ⟨gw,0,none⟩=some (.int .i64 s0.ep):=HLW.out.at_ 0
        have u1:w6.cell? ⟨gw,1,none⟩=some (.int .i64 s0.st):=HLW.out.at_ 1
        have u2:w6.cell? ⟨gw,2,none⟩=some (.slice A0 s0.ans.length c0):=HLW.out.at_ 2
        go_cut [127] from 86 to 127 (fun u w'=>u=.bool false∧Hid (Same w6 w'))
        case first =>
         by_cases hs5:s0.st=5
         ·have ds:(s0.st == 5)=true:=by simpa using hs5
          have hx5:x.s.st=5:=by rw [HCL.out hs5];exact hs5
          have dst:(x.s.st != 5)=false:=by simp [hx5]
          clear hs5 hx5
          go_wp2_with (go_at_call 19;(with_reducible refine (HST.out _ HK6.out).mono ?_);rintro e w8 ⟨rfl,hk8⟩;have HK8:=hid hk8;clear hk8)
          go_meet
          exact ⟨rfl,hid HK8.out⟩
         ·have ds:(s0.st == 5)=false:=by simpa using hs5
          clear hs5
          go_wp2_with fail
          go_meet
          exact ⟨rfl,hid (Keep.refl _ _)⟩
        case rest =>
        obtain ⟨rfl,HKC⟩:=hcut
        go_upto_region 23 with fail
        refine wp_region_held_drew (S:=fun W=>W.cell? ⟨gw,2,none⟩=some (.slice A0 s0.ans.length c0)) (by kernel_rfl) ((HLW.out.keep HKC.out.drew (fun f=>f)).at_ 2) (fun hHeld=>?_)
        have HKd:=hid (show Same w6 wc.drew from HKC.out.drew)
        generalize wc.drew=wd at *
        have hln:(s0.ans.length:Int)≤(x.s.ans.length:Int):=by have:=HLE.out;omega
        have hcc:(s0.ans.length:Int)≤(c5:Int):=by have:=HLE.out;have:=HC5.out;omega
        have hcn:s0.ans.length≤c5:=by omega
        refine tk 0 ?_
        refine tk 1 ?_
        refine tk 2 ?_
        refine tk 3 ?_
        refine tk 4 ?_
        refine tk 5 ?_
        refine tk 6 ?_
        refine tk 7 ?_
        refine tk 8 ?_
        have HNQ:=hid (numbersQ wd (fun i=>T8 i≠none) (fun i=>T8 i≠none) A5 A0 c5 c0 s0.ans (by
         have h:=((HS6.out.same HKd.out).take s0.ans.length HLE.out)
         rw [HXS.out,Nat.mul_one,show (icells (s0.ans++xs)).take s0.ans.length=icells s0.ans from by simp [icells]] at h
         exact h) (HSL0.out.same (HK6.out.then HKd.out)) (by have:=HAL.out;have:=HLE.out;omega))
        refine rd1 9 (fun K hK=>?_)
        go_simp
        (with_reducible refine HNQ.out.mono ?_)
        rintro e10 w10 ⟨rfl,hk10⟩
        have HD10:=hid (HKd.out.then hk10)
        clear hk10
        refine hK.out _ _ ((HLW.out.keep HD10.out (fun f=>f)).at_ 2) (fun hHeld10=>?_)
        clear hK K
        refine pput ?_
        try simp only [Bool.not_true]
        refine tk 10 ?_
        refine tk 11 ?_
        refine wpAnyH_done (by kernel_rfl) ?_ _
        go_upto_region 25 with fail
        have HKR:=hid (HK6.out.then HD10.out)
        have HKT:=hid (HI2.out.1.keep HKR.out)
        have HST2:=hid (fun W (hk:Same w10 W)=>HST.out W (HKR.out.then hk))
        go_wp2_with (first
         | (go_at_call 19;(with_reducible refine (HST2.out _ (Keep.refl _ _)).mono ?_);rintro e w8 ⟨rfl,hk8⟩;have HKX:=hid (HKT.out.keep hk8);have HSX:=hid ((HS6.out.same HD10.out).same hk8);have HSA2:=hid ((HI2.out.2.same HKR.out).same hk8);clear hk8)
         | (at_mapUpdate
            refine gput rfl _ _ _ 77 83 Tryz.underlying77 rfl mb n2 was0 K2 f2 rfl HKX.out.map (by unfold maxLen;omega) ((i3:Int)+1) rfl (wf64 (by omega) (by omega)) (.agg #[.int .i64 x.s.ep,.int .i64 x.s.st,.slice A5 x.s.ans.length c5]) rfl ?_
            intro w9 hm9 hg9
            have hk9:Keep (fun i=>i=mb) w8 w9:=(Keep.refl (fun i=>i=mb) w8).grown hg9 (fun g e _=>by injection e with e;exact e.symm)
            have HF9:=hid (show KI w w9 T8 p8 q8 (twoC g2) l (j+1) x0 gy mb (n2+1) (addK K2 ((i3:Int)+1)) (fun k=>if k=(i3:Int)+1 then wasV x.s A5 c5 else f2 k)∧Sl w9 (fun i=>T8 i≠none) 1 (some ⟨b1,o1,none⟩) m (icells (callsN m)) from
             ⟨HKX.out.note HX.out HSX.out hk9 hm9,HSA2.out.keep hk9 (fun i _ e=>by have e2:i=mb:=e;rw [e2,HKX.out.tm];exact fun h=>by cases h)⟩)
            clear hm9 hg9 hk9))
        go_roundw
        case rel =>
         first | exact ⟨i3+1,n2+1,_,_,by omega,by go_num,by omega,HF9⟩ | ((repeat apply Exists.intro);refine And.intro ?_ rfl;exact ⟨i3+1,n2+1,_,_,by omega,by go_num,by omega,HF9⟩)
        case measure=>simp [RowKit.intOf];omega
       ·have HZR:=hid (show f2 ((i2:Int)+1)=.agg #[.int .i64 0,.int .i64 0,.slice none 0 0] from HI2.out.1.zero _ hk)
        have HKK:=hid hk
        clear hk
        go_upto_region 21 with (first
         | (go_at_call 31;(with_reducible refine HOW.out.mono ?_);rintro e w4 ⟨rfl,hk4⟩;have HK4:=hid hk4;clear hk4)
         | (go_at_call 21;(with_reducible refine (HAN.out _ HK4.out).mono ?_);rintro e w5 ⟨A5,c5,rfl,hs5,hk5,hc5⟩;have HS5:=hid (hs5.wide (Av':=fun i=>T8 i≠none) (fun i _ ht=>Nat.lt_of_lt_of_le (HPL.out i ht) HK4.out.size));have HK5:=hid (HK4.out.then hk5);have HC5:=hid hc5;have HZW:=hid (Blk.made w5 83 #[.int .i64 0,.int .i64 0,.slice none 0 0]);have HG5:=hid (HI2.out.1.map.keep HK5.out (fun f=>f));clear hs5 hk5 hc5)
         | (at_lookup
            refine glook_ok rfl _ _ 77 83 Tryz.underlying77 rfl mb n2 was0 (zeroW _) K2 f2 rfl HG5.out ((i2:Int)+1) rfl (wf64 (by omega) (by omega)) (.agg #[.int .i64 0,.int .i64 0,.slice none 0 0]) HZR.out false (iff_of_false (by decide) HKK.out) ?_)
         | (refine wpList_store_row rfl _ (.tmp 17) (.tmp 84) rfl w5.heap.size #[.int .i64 0,.int .i64 0,.slice none 0 0] rfl rfl _ _ HZW.out (by kernel_rfl) rfl (was_one _ _ _ _ _) ?_))
        have hLW:Blk ((w5.alloc (.cells #[.int .i64 0,.int .i64 0,.slice none 0 0] 83)).setRow w5.heap.size #[.int .i64 0,.int .i64 0,.slice none 0 0]) w5.heap.size 83 #[.int .i64 0,.int .i64 0,.slice none 0 0]:=HZW.out.row _
        have hk6:Same w5 ((w5.alloc (.cells #[.int .i64 0,.int .i64 0,.slice none 0 0] 83)).setRow w5.heap.size #[.int .i64 0,.int .i64 0,.slice none 0 0]):=((Keep.refl (fun _=>False) w5).alloc _).trans (Keep.row _ _ _) (fun j hj e=>by have e2:j=w5.heap.size:=e;omega)
        obtain ⟨gw,hgw⟩:∃ g,g=w5.heap.size:=⟨_,rfl⟩
        rw [←hgw] at hLW hk6 ⊢
        have HLW:=hid hLW
        have HK6:=hid (HK5.out.then hk6)
        have HS6:=hid (HS5.out.same hk6)
        clear hgw hLW hk6 HZW HG5 HOW
        generalize ((w5.alloc (.cells #[.int .i64 0,.int .i64 0,.slice none 0 0] 83)).setRow gw #[.int .i64 0,.int .i64 0,.slice none 0 0])=w6 at *
        go_upto_region 23 with fail
        refine wp_region_held_drew (S:=fun W=>True) (by kernel_rfl) trivial (fun hHeld=>?_)
        have HKd:=hid (show Same w6 w6.drew from (Keep.refl _ _).drew)
        generalize w6.drew=wd at *
        refine tk 0 ?_
        refine tk 1 ?_
        refine tu 2 ?_
        refine tu 3 ?_
        refine tu 4 ?_
        refine tu 5 ?_
        refine tu 6 ?_
        refine tu 7 ?_
        refine tu 8 ?_
        refine tu 9 ?_
        refine tu 10 ?_
        refine tk 11 ?_
        refine wpAnyH_done (by kernel_rfl) ?_ _
        have HD10:=hid HKd.out
        go_upto_region 25 with fail
        have HKR:=hid (HK6.out.then HD10.out)
        have HKT:=hid (HI2.out.1.keep HKR.out)
        have HST2:=hid (fun W (hk:Same wd W)=>HST.out W (HKR.out.then hk))
        go_wp2_with (first
         | (go_at_call 19;(with_reducible refine (HST2.out _ (Keep.refl _ _)).mono ?_);rintro e w8 ⟨rfl,hk8⟩;have HKX:=hid (HKT.out.keep hk8);have HSX:=hid ((HS6.out.same HD10.out).same hk8);have HSA2:=hid ((HI2.out.2.same HKR.out).same hk8);clear hk8)
         | (at_mapUpdate
            refine gput rfl _ _ _ 77 83 Tryz.underlying77 rfl mb n2 was0 K2 f2 rfl HKX.out.map (by unfold maxLen;omega) ((i2:Int)+1) rfl (wf64 (by omega) (by omega)) (.agg #[.int .i64 x.s.ep,.int .i64 x.s.st,.slice A5 x.s.ans.length c5]) rfl ?_
            intro w9 hm9 hg9
            have hk9:Keep (fun i=>i=mb) w8 w9:=(Keep.refl (fun i=>i=mb) w8).grown hg9 (fun g e _=>by injection e with e;exact e.symm)
            have HF9:=hid (show KI w w9 T8 p8 q8 (twoC g2) l (j+1) x0 gy mb (n2+1) (addK K2 ((i2:Int)+1)) (fun k=>if k=(i2:Int)+1 then wasV x.s A5 c5 else f2 k)∧Sl w9 (fun i=>T8 i≠none) 1 (some ⟨b1,o1,none⟩) m (icells (callsN m)) from
             ⟨HKX.out.note HX.out HSX.out hk9 hm9,HSA2.out.keep hk9 (fun i _ e=>by have e2:i=mb:=e;rw [e2,HKX.out.tm];exact fun h=>by cases h)⟩)
            clear hm9 hg9 hk9))
        go_roundw
        case rel =>
         first | exact ⟨i2+1,n2+1,_,_,by omega,by go_num,by omega,HF9⟩ | ((repeat apply Exists.intro);refine And.intro ?_ rfl;exact ⟨i2+1,n2+1,_,_,by omega,by go_num,by omega,HF9⟩)
        case measure=>simp [RowKit.intOf];omega
      ·have hie:i2=m:=by omega
       go_wp2_with fail
       go_roundw
       case rel =>
        first | exact ⟨j+1,T8,p8,q8,n2,K2,f2,by omega,by go_num,by omega,hid HI2.out.1⟩ | ((repeat apply Exists.intro);refine And.intro ?_ rfl;exact ⟨j+1,T8,p8,q8,n2,K2,f2,by omega,by go_num,by omega,hid HI2.out.1⟩)
       case measure=>simp [RowKit.intOf];omega
    ·go_wp2_with (go_at_call 10;(with_reducible refine (HAW.out _).mono ?_);rintro e w9 ⟨rfl,hk9⟩;have HK9:=hid hk9;clear hk9)
     go_ret
     exact ⟨rfl,HI.out.same.then HK9.out⟩
end Go.Proofs.YtbjddfiledoaoaaGreat

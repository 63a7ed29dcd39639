import Derived.Test.YtbjddfiledoaoaaGreatYE
import Derived.Test.YtbjddfiledoaoaaGreatYN
import Derived.Test.YtbjddfiledoaoaaGreatYW
namespace Go.Proofs.YtbjddfiledoaoaaGreat
open Go.RowKit
theorem results_cell_tmp2 {P:Program} {fn:Func} {p q r:Tmp} {ty:TypeId} (h:fn.results=#[.cell p ty,.tmp q,.tmp r]) (tmps:Array Value) (w:World) (g:Nat) (t:TypeId) (cs:Array Value) (fr:Nat × Nat) (d:TypeDesc) (v v2:Value)
 (hp:tmps.getD p undef=.pointer (some ⟨g,0,none⟩)) (hq:tmps.getD q undef=v) (hr:tmps.getD r undef=v2) (hg:w.heap[g]? = some (.cells cs t fr))
 (hu:P.underlying ty=some d) (hd:(match d with | .struct _ | .array _ _=>true | _=>false)=true) (hi:(P.info? ty).map (·.size)=some cs.size) :
 (results fn tmps).run P w=.ok (.tuple #[.agg cs,v,v2]) w:=by
 have hp':tmps[p]?.getD undef=.pointer (some ⟨g,0,none⟩):=by simpa using hp
 have hq':tmps[q]?.getD undef=v:=by simpa using hq
 have hr':tmps[r]?.getD undef=v2:=by simpa using hr
 simp [results,h,hp',hq',hr',asAddr,run_loadVar_row w g t ty cs fr d hg hu hd hi]
def DQPost (w:World) (Av:Nat→Prop) (c:CF) (X:XS) (id er:Int) (e:Ending) (w':World):Prop:=∃ q:QS,e=.returned (.tuple #[.agg q.cells.toArray,.int .i64 id,.int .i64 er])∧RX w' Av q∧q.pt=X∧q.c=c∧Same w w'
theorem fvS_skip {l:List Src} {j:Nat} {s:Src} (hs:l[j]? = some s) (h:okS s=false):fvS (l.take (j+1))=fvS (l.take j):=by unfold fvS;rw [fvS_none hs h]
theorem fvS_full {l:List Src} {j:Nat} {s:Src} (hs:l[j]? = some s) (h:(fvS (l.take j)).length=16):fvS (l.take (j+1))=fvS (l.take j):=by
 cases hk:okS s with
 | false=>exact fvS_skip hs hk
 | true =>
   unfold fvS at h ⊢
   rw [fvS_some hs hk]
   rw [List.length_take] at h
   rw [List.take_append_of_le_length (by omega)]
theorem fvS_add {l:List Src} {j:Nat} {s:Src} (hs:l[j]? = some s) (hk:okS s=true) (h:(fvS (l.take j)).length<16):fvS (l.take (j+1))=fvS (l.take j)++[s]:=by
 unfold fvS at h ⊢
 rw [fvS_some hs hk]
 rw [List.length_take] at h
 rw [List.take_of_length_le (l:=(l.take j).filter okS++[s]) (by simp;omega),List.take_of_length_le (l:=(l.take j).filter okS) (by omega)]
theorem fvS_le (l:List Src):(fvS l).length≤16:=by unfold fvS;rw [List.length_take];omega
set_option maxHeartbeats 8000000 in
set_option maxRecDepth 100000 in
theorem dial_neg (w:World) (Av:Nat→Prop) (hAv:∀ i,Av i→i<w.heap.size) (q:QS) (h:RX w Av q) (_hD:Sl w Av 1 q.c.D q.c.dis.length (icells q.c.dis)) (hok:XOk q.pt) (_hn:q.R.length≤900) (_hno:q.out.length≤800000) (_hne:q.ev.length≤800000) (_hdl:q.c.dis.length≤100000) (node:Int) (B:Option Addr) (cb:Nat) (l:List SA) (_hs:SAs w Av B l) (_hsn:l.length≤1000) (_hnd:∀ x∈l,x.nd.length≤1000) (now:Int) (hneg:node<0):Calls Tryz.prog 59 #[.agg q.cells.toArray,.int .i64 node,.slice B l.length cb,.int .i64 now] w (DQPost w Av q.c q.pt 0 1):=by
 have hm:=(Blk.made w 35 q.cells.toArray).alloc (.cells zero20.toArray 35)
 have hz:=Blk.made (w.alloc (.cells q.cells.toArray 35)) 35 zero20.toArray
 have hw:Same w ((w.alloc (.cells q.cells.toArray 35)).alloc (.cells zero20.toArray 35)):=((Keep.refl _ _).alloc _).alloc _
 rw [World.size_alloc] at hz
 generalize hw1:((w.alloc (.cells q.cells.toArray 35)).alloc (.cells zero20.toArray 35))=w1 at *
 have hsz:w1.heap.size=w.heap.size+2:=by rw [←hw1];simp only [World.size_alloc]
 have HVT:=hid (fun W=>show Calls Tryz.prog 101 #[.int .i64 now] W (fun e w'=>e=.returned (.bool (vN now 0))∧W=w') from rtick_any W now)
 have HSAME:=hid (fun (W:World) (hk:Same w1 W) (id er:Int)=>show DQPost w Av q.c q.pt id er (.returned (.tuple #[.agg q.cells.toArray,.int .i64 id,.int .i64 er])) (W.setRow (w.heap.size+1) q.cells.toArray) from by
  have hs:Same w (W.setRow (w.heap.size+1) q.cells.toArray):=(hw.then hk).trans (Keep.row _ _ _) (fun j hj e=>by have e2:j=w.heap.size+1:=e;omega)
  exact ⟨q,rfl,h.same hs,rfl,rfl,hs⟩)
 have HM:=hid hm
 have HZ:=hid hz
 have HW:=hid hw
 have HR:=hid h
 have HAV:=hid hAv
 have HSZ:=hid hsz
 have HOK:=hid hok
 have z1:w1.cell? ⟨w.heap.size,1,none⟩=some (.slice q.c.D q.c.dis.length q.c.cD):=hm.at_ 1
 have h03:w.heap.size<w1.heap.size:=by omega
 have d1:decide (node<0)=true:=decide_eq_true hneg
 clear hm hz hw h _hD hAv hok _hs _hnd hsz _hn _hno _hne _hsn
 clear hneg z1
 go_enter Tryz.func59,Tryz.ntmps59
 go_upto_region 1 with fail
 try simp only [zero20] at hw1
 try rw [hw1]
 clear hw1
 go_wp2_with (first
  | (refine wpList_load_row rfl _ (.tmp 4) rfl w.heap.size rfl _ q.cells.toArray (0,0) _ HM.out Tryz.underlying35 rfl (by kernel_rfl) ?_)
  | (refine wpList_store_row rfl _ (.tmp 8) (.tmp 31) rfl (w.heap.size+1) q.cells.toArray rfl rfl _ _ HZ.out (by kernel_rfl) rfl (one_toArray (q_one q)) ?_))
 refine bodyPost_ret (results_cell_tmp2 rfl _ _ _ _ _ _ _ _ _ rfl rfl rfl (HZ.out.row _) Tryz.underlying35 rfl (by kernel_rfl)) rfl ?_
 exact HSAME.out _ (Keep.refl _ _) 0 1
set_option maxHeartbeats 8000000 in
set_option maxRecDepth 100000 in
theorem dial_far (w:World) (Av:Nat→Prop) (hAv:∀ i,Av i→i<w.heap.size) (q:QS) (h:RX w Av q) (_hD:Sl w Av 1 q.c.D q.c.dis.length (icells q.c.dis)) (hok:XOk q.pt) (_hn:q.R.length≤900) (_hno:q.out.length≤800000) (_hne:q.ev.length≤800000) (_hdl:q.c.dis.length≤100000) (node:Int) (B:Option Addr) (cb:Nat) (l:List SA) (_hs:SAs w Av B l) (_hsn:l.length≤1000) (_hnd:∀ x∈l,x.nd.length≤1000) (now:Int) (hneg:0≤node) (hfar:(q.c.dis.length:Int)≤node):Calls Tryz.prog 59 #[.agg q.cells.toArray,.int .i64 node,.slice B l.length cb,.int .i64 now] w (DQPost w Av q.c q.pt 0 1):=by
 have hm:=(Blk.made w 35 q.cells.toArray).alloc (.cells zero20.toArray 35)
 have hz:=Blk.made (w.alloc (.cells q.cells.toArray 35)) 35 zero20.toArray
 have hw:Same w ((w.alloc (.cells q.cells.toArray 35)).alloc (.cells zero20.toArray 35)):=((Keep.refl _ _).alloc _).alloc _
 rw [World.size_alloc] at hz
 generalize hw1:((w.alloc (.cells q.cells.toArray 35)).alloc (.cells zero20.toArray 35))=w1 at *
 have hsz:w1.heap.size=w.heap.size+2:=by rw [←hw1];simp only [World.size_alloc]
 have HVT:=hid (fun W=>show Calls Tryz.prog 101 #[.int .i64 now] W (fun e w'=>e=.returned (.bool (vN now 0))∧W=w') from rtick_any W now)
 have HSAME:=hid (fun (W:World) (hk:Same w1 W) (id er:Int)=>show DQPost w Av q.c q.pt id er (.returned (.tuple #[.agg q.cells.toArray,.int .i64 id,.int .i64 er])) (W.setRow (w.heap.size+1) q.cells.toArray) from by
  have hs:Same w (W.setRow (w.heap.size+1) q.cells.toArray):=(hw.then hk).trans (Keep.row _ _ _) (fun j hj e=>by have e2:j=w.heap.size+1:=e;omega)
  exact ⟨q,rfl,h.same hs,rfl,rfl,hs⟩)
 have HM:=hid hm
 have HZ:=hid hz
 have HW:=hid hw
 have HR:=hid h
 have HAV:=hid hAv
 have HSZ:=hid hsz
 have HOK:=hid hok
 have z1:w1.cell? ⟨w.heap.size,1,none⟩=some (.slice q.c.D q.c.dis.length q.c.cD):=hm.at_ 1
 have h03:w.heap.size<w1.heap.size:=by omega
 have d1:decide (node<0)=false:=decide_eq_false (by omega)
 have d2:decide ((q.c.dis.length:Int)≤node)=true:=decide_eq_true hfar
 clear hm hz hw h _hD hAv hok _hs _hnd hsz _hn _hno _hne _hsn
 clear hneg hfar
 go_enter Tryz.func59,Tryz.ntmps59
 go_upto_region 1 with fail
 try simp only [zero20] at hw1
 try rw [hw1]
 clear hw1
 go_wp2_with (first
  | (refine wpList_load_row rfl _ (.tmp 4) rfl w.heap.size rfl _ q.cells.toArray (0,0) _ HM.out Tryz.underlying35 rfl (by kernel_rfl) ?_)
  | (refine wpList_store_row rfl _ (.tmp 8) (.tmp 31) rfl (w.heap.size+1) q.cells.toArray rfl rfl _ _ HZ.out (by kernel_rfl) rfl (one_toArray (q_one q)) ?_))
 refine bodyPost_ret (results_cell_tmp2 rfl _ _ _ _ _ _ _ _ _ rfl rfl rfl (HZ.out.row _) Tryz.underlying35 rfl (by kernel_rfl)) rfl ?_
 exact HSAME.out _ (Keep.refl _ _) 0 1
set_option maxHeartbeats 8000000 in
set_option maxRecDepth 100000 in
theorem dial_tick (w:World) (Av:Nat→Prop) (hAv:∀ i,Av i→i<w.heap.size) (q:QS) (h:RX w Av q) (_hD:Sl w Av 1 q.c.D q.c.dis.length (icells q.c.dis)) (hok:XOk q.pt) (_hn:q.R.length≤900) (_hno:q.out.length≤800000) (_hne:q.ev.length≤800000) (_hdl:q.c.dis.length≤100000) (node:Int) (B:Option Addr) (cb:Nat) (l:List SA) (_hs:SAs w Av B l) (_hsn:l.length≤1000) (_hnd:∀ x∈l,x.nd.length≤1000) (now:Int) (hneg:0≤node) (hfar:node<(q.c.dis.length:Int)) (hv:vN now 0=false):Calls Tryz.prog 59 #[.agg q.cells.toArray,.int .i64 node,.slice B l.length cb,.int .i64 now] w (DQPost w Av q.c q.pt 0 1):=by
 have hm:=(Blk.made w 35 q.cells.toArray).alloc (.cells zero20.toArray 35)
 have hz:=Blk.made (w.alloc (.cells q.cells.toArray 35)) 35 zero20.toArray
 have hw:Same w ((w.alloc (.cells q.cells.toArray 35)).alloc (.cells zero20.toArray 35)):=((Keep.refl _ _).alloc _).alloc _
 rw [World.size_alloc] at hz
 generalize hw1:((w.alloc (.cells q.cells.toArray 35)).alloc (.cells zero20.toArray 35))=w1 at *
 have hsz:w1.heap.size=w.heap.size+2:=by rw [←hw1];simp only [World.size_alloc]
 have HVT:=hid (fun W=>show Calls Tryz.prog 101 #[.int .i64 now] W (fun e w'=>e=.returned (.bool (vN now 0))∧W=w') from rtick_any W now)
 have HSAME:=hid (fun (W:World) (hk:Same w1 W) (id er:Int)=>show DQPost w Av q.c q.pt id er (.returned (.tuple #[.agg q.cells.toArray,.int .i64 id,.int .i64 er])) (W.setRow (w.heap.size+1) q.cells.toArray) from by
  have hs:Same w (W.setRow (w.heap.size+1) q.cells.toArray):=(hw.then hk).trans (Keep.row _ _ _) (fun j hj e=>by have e2:j=w.heap.size+1:=e;omega)
  exact ⟨q,rfl,h.same hs,rfl,rfl,hs⟩)
 have HM:=hid hm
 have HZ:=hid hz
 have HW:=hid hw
 have HR:=hid h
 have HAV:=hid hAv
 have HSZ:=hid hsz
 have HOK:=hid hok
 have z1:w1.cell? ⟨w.heap.size,1,none⟩=some (.slice q.c.D q.c.dis.length q.c.cD):=hm.at_ 1
 have h03:w.heap.size<w1.heap.size:=by omega
 have HV:=hid hv
 have d1:decide (node<0)=false:=decide_eq_false (by omega)
 have d2:decide ((q.c.dis.length:Int)≤node)=false:=decide_eq_false (by omega)
 clear hm hz hw h _hD hAv hok _hs _hnd hsz _hn _hno _hne _hsn
 clear hneg hfar hv
 go_enter Tryz.func59,Tryz.ntmps59
 go_upto_region 1 with fail
 try simp only [zero20] at hw1
 try rw [hw1]
 clear hw1
 go_wp2_with (first
  | (go_at_call 101;(with_reducible refine (HVT.out _).mono ?_);rintro e1 w2 ⟨rfl,rfl⟩;rw [HV.out])
  | (refine wpList_load_row rfl _ (.tmp 4) rfl w.heap.size rfl _ q.cells.toArray (0,0) _ HM.out Tryz.underlying35 rfl (by kernel_rfl) ?_)
  | (refine wpList_store_row rfl _ (.tmp 8) (.tmp 31) rfl (w.heap.size+1) q.cells.toArray rfl rfl _ _ HZ.out (by kernel_rfl) rfl (one_toArray (q_one q)) ?_))
 refine bodyPost_ret (results_cell_tmp2 rfl _ _ _ _ _ _ _ _ _ rfl rfl rfl (HZ.out.row _) Tryz.underlying35 rfl (by kernel_rfl)) rfl ?_
 exact HSAME.out _ (Keep.refl _ _) 0 1
structure DI (w w3 wr:World) (gl:Nat) (q:QS) (x:QA) (l:List SA) (j:Nat) (vs:List SA) (V:Option Addr) (vc:Nat):Prop where
 ln:Blk wr gl 53 ({ x with B:=V,bc:=vc,src:=vs }:QA).cells.toArray
 own:Own wr w3.heap.size 129 2 (.slice V vs.length vc) vs.length (vs.flatMap SA.cells)
 mem:∀ y∈vs,y∈l
 pt:vs.map SA.pt=fvS ((l.map SA.pt).take j)
 hdr:Blk wr w.heap.size 35 q.cells.toArray
 res:Blk wr (w.heap.size+1) 35 zero20.toArray
 same:Same w wr
 size:w3.heap.size≤wr.heap.size
theorem DI.keep {w w3 wr W:World} {gl:Nat} {q:QS} {x:QA} {l:List SA} {j:Nat} {vs:List SA} {V:Option Addr} {vc:Nat} (h:DI w w3 wr gl q x l j vs V vc) (hk:Same wr W):DI w w3 W gl q x l j vs V vc :=
 ⟨h.ln.keep hk (fun f=>f),h.own.keepB hk (fun _ _ f=>f),h.mem,h.pt,h.hdr.keep hk (fun f=>f),h.res.keep hk (fun f=>f),h.same.then hk,Nat.le_trans h.size hk.size⟩
theorem DI.to {w w3 wr:World} {gl:Nat} {q:QS} {x:QA} {l:List SA} {j i:Nat} {vs:List SA} {V:Option Addr} {vc:Nat} (h:DI w w3 wr gl q x l j vs V vc) (e:fvS ((l.map SA.pt).take i)=fvS ((l.map SA.pt).take j)):DI w w3 wr gl q x l i vs V vc :=
 ⟨h.ln,h.own,h.mem,by rw [e];exact h.pt,h.hdr,h.res,h.same,h.size⟩
theorem DI.grow {w w3 w6 w7:World} {gl:Nat} {q:QS} {x:QA} {l:List SA} {j i:Nat} {vs:List SA} {V A7:Option Addr} {vc c7:Nat} {y:SA} (h:DI w w3 w6 gl q x l j vs V vc) (hgl:gl<w3.heap.size) (hg0:w.heap.size+1<gl)
 (ho7:Own w7 w3.heap.size 129 2 (.slice A7 (vs.length+1) c7) (vs.length+1) ((vs++[y]).flatMap SA.cells)) (hg7:w6.grownBy w7 (Value.slice V vs.length vc).ownBlock) (hy:y∈l) (e:fvS ((l.map SA.pt).take i)=fvS ((l.map SA.pt).take j)++[y.pt]) :
 DI w w3 (w7.setCell ⟨gl,9,none⟩ (.slice A7 (vs.length+1) c7)) gl q x l i (vs++[y]) A7 c7:=by
 have hkq:Keep (fun b=>(Value.slice V vs.length vc).ownBlock=some b) w6 w7:=(Keep.refl _ _).grown hg7 (fun x e _=>e)
 have hkp:Keep (fun b=>b=gl) w7 (w7.setCell ⟨gl,9,none⟩ (.slice A7 (vs.length+1) c7)):=(Keep.refl _ _).put 9 _
 have hb:∀ b,(Value.slice V vs.length vc).ownBlock=some b→w3.heap.size≤b:=h.own.block
 have hl:(vs++[y]).length=vs.length+1:=by simp
 refine ⟨?_,?_,?_,?_,?_,?_,?_,Nat.le_trans h.size (Nat.le_trans hkq.size hkp.size)⟩
 ·have h1:=(h.ln.keep hkq (fun e=>by have:=hb _ e;omega)).put 9 (.slice A7 (vs.length+1) c7)
  have h2:({ x with B:=A7,bc:=c7,src:=vs++[y] }:QA).cells.toArray=({ x with B:=V,bc:=vc,src:=vs }:QA).cells.toArray.setIfInBounds 9 (.slice A7 (vs.length+1) c7):=by simp [QA.cells]
  rw [h2];exact h1
 ·rw [hl]
  exact ho7.keepB hkp (fun g hg e=>by have e2:g=gl:=e;have:=ho7.block g hg;omega)
 ·intro z hz
  rcases List.mem_append.1 hz with hz | hz
  ·exact h.mem z hz
  ·rw [List.mem_singleton] at hz;subst hz;exact hy
 ·rw [List.map_append,h.pt,e];rfl
 ·exact (h.hdr.keep hkq (fun e=>by have:=hb _ e;omega)).keep hkp (fun e=>by have e2:w.heap.size=gl:=e;omega)
 ·exact (h.res.keep hkq (fun e=>by have:=hb _ e;omega)).keep hkp (fun e=>by have e2:w.heap.size+1=gl:=e;omega)
 ·exact (h.same.trans hkq (fun j hj e=>by have:=hb _ e;omega)).trans hkp (fun j hj e=>by have e2:j=gl:=e;omega)
set_option maxHeartbeats 8000000 in
set_option maxRecDepth 100000 in
theorem dial_good (w:World) (Av:Nat→Prop) (hAv:∀ i,Av i→i<w.heap.size) (q:QS) (h:RX w Av q) (hD:Sl w Av 1 q.c.D q.c.dis.length (icells q.c.dis)) (hok:XOk q.pt) (hn:q.R.length≤900) (hno:q.out.length≤800000) (hne:q.ev.length≤800000) (_hdl:q.c.dis.length≤100000) (node:Int) (B:Option Addr) (cb:Nat) (l:List SA) (hs:SAs w Av B l) (hsn:l.length≤1000) (hnd:∀ x∈l,x.nd.length≤1000) (now:Int) (hneg:0≤node) (hfar:node<(q.c.dis.length:Int)) (hv:vN now 0=true):Calls Tryz.prog 59 #[.agg q.cells.toArray,.int .i64 node,.slice B l.length cb,.int .i64 now] w (DQPost w Av q.c (q.pt.dial node (l.map SA.pt) now) ((q.R.length:Int)+1) 0):=by
 have hm:=(Blk.made w 35 q.cells.toArray).alloc (.cells zero20.toArray 35)
 have hz:=Blk.made (w.alloc (.cells q.cells.toArray 35)) 35 zero20.toArray
 have hw:Same w ((w.alloc (.cells q.cells.toArray 35)).alloc (.cells zero20.toArray 35)):=((Keep.refl _ _).alloc _).alloc _
 rw [World.size_alloc] at hz
 generalize hw1:((w.alloc (.cells q.cells.toArray 35)).alloc (.cells zero20.toArray 35))=w1 at *
 have hsz:w1.heap.size=w.heap.size+2:=by rw [←hw1];simp only [World.size_alloc]
 have HVT:=hid (fun W=>show Calls Tryz.prog 101 #[.int .i64 now] W (fun e w'=>e=.returned (.bool (vN now 0))∧W=w') from rtick_any W now)
 have HSAME:=hid (fun (W:World) (hk:Same w1 W) (id er:Int)=>show DQPost w Av q.c q.pt id er (.returned (.tuple #[.agg q.cells.toArray,.int .i64 id,.int .i64 er])) (W.setRow (w.heap.size+1) q.cells.toArray) from by
  have hs:Same w (W.setRow (w.heap.size+1) q.cells.toArray):=(hw.then hk).trans (Keep.row _ _ _) (fun j hj e=>by have e2:j=w.heap.size+1:=e;omega)
  exact ⟨q,rfl,h.same hs,rfl,rfl,hs⟩)
 have HM:=hid hm
 have HZ:=hid hz
 have HW:=hid hw
 have HR:=hid h
 have HAV:=hid hAv
 have HSZ:=hid hsz
 have HOK:=hid hok
 have z1:w1.cell? ⟨w.heap.size,1,none⟩=some (.slice q.c.D q.c.dis.length q.c.cD):=hm.at_ 1
 have h03:w.heap.size<w1.heap.size:=by omega
 have HV:=hid hv
 have d1:decide (node<0)=false:=decide_eq_false (by omega)
 have d2:decide ((q.c.dis.length:Int)≤node)=false:=decide_eq_false (by omega)
 obtain ⟨nn,rfl⟩:=Int.eq_ofNat_of_zero_le hneg
 obtain ⟨d,hd⟩:=get_some (l:=q.c.dis) (k:=nn) (by omega)
 have hdd:=hok.dis d (List.mem_of_getElem? hd)
 have hcen:q.pt.cen=q.c.cen:=rfl
 have hc9:=hok.c9
 obtain ⟨dn,hdn⟩:=Int.eq_ofNat_of_zero_le hdd.1
 have hdn:d=(dn:Int):=hdn
 subst hdn
 obtain ⟨db,dof,hDA,hdb,hdc⟩:=int_at (hD.same hw) hd
 rw [hDA] at z1
 have d2':decide (q.c.dis.length≤nn)=false:=decide_eq_false (by omega)
 have z15:w1.cell? ⟨w.heap.size,15,none⟩=some (.slice q.LA q.R.length q.lc):=hm.at_ 15
 have hnn:(nn:Int)<(q.c.dis.length:Int):=hfar
 have hn0:(0:Int)≤(nn:Int):=Int.natCast_nonneg _
 have HSAM:=hid hsn
 have HNEW:=hid (fun (W:World)=>newRef_any W ((q.R.length:Int)+1) now (by unfold vN;simp only [Bool.and_eq_true,decide_eq_true_eq];omega) hv)
 have HSL:=hid (fun (W W2:World) (hk:Same w W)=>show SAs W (AvN w Av W2) B l from (hs.wide (Av':=AvN w Av W2) (fun i hi h=>(AvN.or i h).elim id (fun e=>by omega))).same hk)
 have HND:=hid hnd
 have HRL:=hid (fun (W W2:World) (hk:Same w W)=>show RX W (AvN w Av W2) q from h.later hk AvN.or)
 have HDD:=hid hdd
 have HML:=hid (And.intro hno (And.intro hne hsn))
 have HDI:=hid (show q.pt.dial (nn:Int) (l.map SA.pt) now=((q.pt.add (newL ((q.R.length:Int)+1) (dn:Int) now (l.map SA.pt))).evt ⟨2,now,(dn:Int),(q.R.length:Int)+1,0,0⟩).bind q.R.length (newL ((q.R.length:Int)+1) (dn:Int) now (l.map SA.pt)) now from by
  unfold XS.dial XS.dialE
  have hl:q.pt.L.length=q.R.length:=by simp [QS.pt]
  rw [if_pos (if_pos ⟨⟨hn0,hfar⟩,hv⟩),hl,show q.pt.dis[((nn:Int)).toNat]? = some (dn:Int) from hd]
  rfl)
 have hns:q.R.length≤900:=hn
 have hZL:=Blk.made w1 53 #[.int .i64 0,.int .i64 0,.int .i64 0,.int .i64 0,.int .i64 0,.string ⟨#[]⟩,.int .i64 0,.slice none 0 0,.int .i64 0,.slice none 0 0,.int .i64 0]
 have HZL:=hid hZL
 clear hm hz hw h hD hAv hok hs hnd hsz hn hno hne
 clear hfar hneg hv hd hdd hcen hc9 hDA hdb hZL _hdl
 go_enter Tryz.func59,Tryz.ntmps59
 go_upto_region 1 with fail
 try simp only [zero20] at hw1
 try rw [hw1]
 clear hw1
 go_upto_region 5 with (first
  | (go_at_call 101;(with_reducible refine (HVT.out _).mono ?_);rintro e1 w2 ⟨rfl,rfl⟩;rw [HV.out])
  | (refine wpList_store_row rfl _ (.tmp 12) (.tmp 42) rfl w1.heap.size ({ s:=⟨0,0,0,0,0,⟨#[]⟩,0,[]⟩,A:=none,c:=0,d:=(dn:Int),B:=none,bc:=0,src:=[],last:=0 }:QA).cells.toArray rfl rfl _ _ HZL.out (by kernel_rfl) rfl (one_toArray (qa_one _)) ?_))
 have hL2:Blk ((w1.alloc (.cells #[.int .i64 0,.int .i64 0,.int .i64 0,.int .i64 0,.int .i64 0,.string ⟨#[]⟩,.int .i64 0,.slice none 0 0,.int .i64 0,.slice none 0 0,.int .i64 0] 53)).setRow w1.heap.size ({ s:=⟨0,0,0,0,0,⟨#[]⟩,0,[]⟩,A:=none,c:=0,d:=(dn:Int),B:=none,bc:=0,src:=[],last:=0 }:QA).cells.toArray) w1.heap.size 53 ({ s:=⟨0,0,0,0,0,⟨#[]⟩,0,[]⟩,A:=none,c:=0,d:=(dn:Int),B:=none,bc:=0,src:=[],last:=0 }:QA).cells.toArray:=HZL.out.row _
 have hk2:Same w1 ((w1.alloc (.cells #[.int .i64 0,.int .i64 0,.int .i64 0,.int .i64 0,.int .i64 0,.string ⟨#[]⟩,.int .i64 0,.slice none 0 0,.int .i64 0,.slice none 0 0,.int .i64 0] 53)).setRow w1.heap.size ({ s:=⟨0,0,0,0,0,⟨#[]⟩,0,[]⟩,A:=none,c:=0,d:=(dn:Int),B:=none,bc:=0,src:=[],last:=0 }:QA).cells.toArray):=((Keep.refl (fun _=>False) w1).alloc _).trans (Keep.row _ _ _) (fun j hj e=>by have e2:j=w1.heap.size:=e;omega)
 obtain ⟨gl,hgl⟩:∃ g,g=w1.heap.size:=⟨_,rfl⟩
 rw [←hgl] at hL2 hk2 ⊢
 have HGL:=hid (show gl=w.heap.size+2 from by rw [hgl];exact HSZ.out)
 obtain ⟨w2,hw2⟩:∃ x',x'=(w1.alloc (.cells #[.int .i64 0,.int .i64 0,.int .i64 0,.int .i64 0,.int .i64 0,.string ⟨#[]⟩,.int .i64 0,.slice none 0 0,.int .i64 0,.slice none 0 0,.int .i64 0] 53)).setRow gl ({ s:=⟨0,0,0,0,0,⟨#[]⟩,0,[]⟩,A:=none,c:=0,d:=(dn:Int),B:=none,bc:=0,src:=[],last:=0 }:QA).cells.toArray:=⟨_,rfl⟩
 rw [←hw2] at hL2 hk2 ⊢
 obtain ⟨x0,hx0⟩:∃ x0:QA,x0=({ s:=⟨0,0,0,0,0,⟨#[]⟩,0,[]⟩,A:=none,c:=0,d:=(dn:Int),B:=none,bc:=0,src:=[],last:=0 }:QA):=⟨_,rfl⟩
 rw [←hx0] at hL2
 have HX0:=hid hx0
 have HL2:=hid hL2
 have HM2:=hid (HM.out.keep hk2 (fun f=>f))
 have HZ2:=hid (HZ.out.keep hk2 (fun f=>f))
 have HK2:=hid (HW.out.then hk2)
 have HK12:=hid hk2
 clear hL2 hk2 hw2 hx0 hgl z1 z15 hdc HZL
 go_upto_region 6 with (first
  | (go_at_call 102;(with_reducible refine (HNEW.out _).mono ?_);rintro e9 w3 ⟨rfl,hk3⟩;have HK3:=hid hk3;have HL3:=hid (HL2.out.keep hk3 (fun f=>f));have HTH:Hid (w3.there gl 0 ((CL.mk ((q.R.length:Int)+1) 1 now (-1) 0 ⟨#[]⟩ 0 []).cells none 0).toArray.size):=hid HL3.out.lineThere;clear hk3)
  | (refine wpList_store_mid rfl _ (.tmp 49) (.tmp 47) rfl gl 0 ((CL.mk ((q.R.length:Int)+1) 1 now (-1) 0 ⟨#[]⟩ 0 []).cells none 0).toArray rfl rfl HTH.out (by kernel_rfl) (one_toArray (cl_one _ _ _)) ?_))
 have hL4:Blk (w3.setCells gl 0 ((CL.mk ((q.R.length:Int)+1) 1 now (-1) 0 ⟨#[]⟩ 0 []).cells none 0)) gl 53 ({ x0 with s:=CL.mk ((q.R.length:Int)+1) 1 now (-1) 0 ⟨#[]⟩ 0 [],A:=none,c:=0 }:QA).cells.toArray:=HL3.out.line _ none 0
 have hkc:Keep (fun j=>j=gl) w3 (w3.setCells gl 0 ((CL.mk ((q.R.length:Int)+1) 1 now (-1) 0 ⟨#[]⟩ 0 []).cells none 0)):=Keep.cells gl _ _ _
 have hgl2:=HGL.out
 have hm4:=(HM2.out.keep HK3.out (fun f=>f)).keep hkc (fun e=>by have e2:w.heap.size=gl:=e;omega)
 have hz4:=(HZ2.out.keep HK3.out (fun f=>f)).keep hkc (fun e=>by have e2:w.heap.size+1=gl:=e;omega)
 have hk4:=(HK2.out.then HK3.out).trans hkc (fun j hj e=>by have e2:j=gl:=e;omega)
 obtain ⟨x1,hx1⟩:∃ x1:QA,x1={ x0 with s:=CL.mk ((q.R.length:Int)+1) 1 now (-1) 0 ⟨#[]⟩ 0 [],A:=none,c:=0 }:=⟨_,rfl⟩
 rw [←hx1] at hL4
 have HX1:=hid (show x1=({ s:=⟨(q.R.length:Int)+1,1,now,-1,0,⟨#[]⟩,0,[]⟩,A:=none,c:=0,d:=(dn:Int),B:=none,bc:=0,src:=[],last:=0 }:QA) from by rw [hx1,HX0.out])
 generalize (w3.setCells gl 0 ((CL.mk ((q.R.length:Int)+1) 1 now (-1) 0 ⟨#[]⟩ 0 []).cells none 0))=w4 at *
 have HL4:=hid hL4
 have HDI0:=hid (show DI w w4 w4 gl q x1 l 0 [] none 0 from ⟨by
  have e1:({ x1 with B:=none,bc:=0,src:=[] }:QA)=x1:=by rw [HX1.out]
  rw [e1];exact hL4,Own.nil _ _ _ _,(fun _ h=>by cases h),by simp [fvS],hm4,hz4,hk4,Nat.le_refl _⟩)
 have HL4S:=hid (show gl<w4.heap.size from hL4.lt)
 have HK4:=hid hk4
 have hx1':=hx1
 clear hL4 hkc hm4 hz4 hk4 hx1 hx1' hgl2 HL2 HL3 HM2 HZ2 HK2 HK3 HTH HNEW HX0 HVT
 go_wp2_with fail
 go_loopw [52] (fun i wr=>∃ (j:Nat) (vs:List SA) (V:Option Addr) (vc:Nat),j≤l.length∧i=.int .i64 j∧vs.length≤16∧Hid (DI w w4 wr gl q x1 l j vs V vc)) (fun i _=>l.length - (RowKit.intOf i).toNat)
 case atStart=>exact ⟨0,[],none,0,Nat.zero_le _,rfl,by simp,HDI0⟩
 case round =>
  obtain ⟨j,vs,V,vc,hj,rfl,hv16,HI⟩:=hrel
  have hj0:(0:Int)≤(j:Int):=Int.natCast_nonneg _
  have hjb:j≤1000:=by have:=HML.out.2.2;omega
  by_cases hjn:j<l.length
  ·have hj1:(j:Int)<(l.length:Int):=by omega
   obtain ⟨a,ha⟩:=get_some hjn
   have hsl:=HSL.out wr w4 HI.out.same
   obtain ⟨b1,o1,hB1,hb1,y0,y1⟩:=hsl.at_ ha
   have hel:=hsl.el a (List.mem_of_getElem? ha)
   have hnl:=HND.out a (List.mem_of_getElem? ha)
   have HP:=hid (show (l.map SA.pt)[j]? = some a.pt from by rw [List.getElem?_map,ha];rfl)
   have HMEM:=hid (List.mem_of_getElem? ha)
   have HVP:=hid (show (fvS ((l.map SA.pt).take j)).length=vs.length from by rw [←HI.out.pt,List.length_map])
   obtain ⟨ak,aA,ac,and_⟩:=a
   simp only at y0 y1 hel hnl
   have HMAY:=hid (fun W (hk:Same wr W)=>may_any W (AvN w Av w4) ak aA ac and_ (hel.same hk) (by omega))
   have c9:wr.cell? ⟨gl,9,none⟩=some (.slice V vs.length vc):=HI.out.ln.at_ 9
   have HBQ:=hid (Blk.made wr 129 #[.int .i64 ak,.slice aA and_.length ac])
   have hlw:gl<wr.heap.size:=HI.out.ln.lt
   subst hB1
   clear ha hsl hel hnl HDI0
   cases hok:okS ⟨ak,and_⟩ with
   | false =>
     have HN:=hid (fvS_skip HP.out hok)
     have HOKS:=hid hok
     clear hok
     as_aux_lemma =>
     go_wp2_with (go_at_call 103;(with_reducible refine (HMAY.out _ ((Keep.refl _ _).alloc _)).mono ?_);rintro e1 w5 ⟨rfl,hk5⟩;rw [HOKS.out];have HI5:=hid (HI.out.keep (((Keep.refl (fun _=>False) wr).alloc (.cells #[.int .i64 ak,.slice aA and_.length ac] 129)).then hk5));have c9:w5.cell? ⟨gl,9,none⟩=some (.slice V vs.length vc):=HI5.out.ln.at_ 9;have hb5:=HBQ.out.keep hk5 (fun f=>f);have z0:w5.cell? ⟨wr.heap.size,0,none⟩=some (.int .i64 ak):=hb5.at_ 0;have z1:w5.cell? ⟨wr.heap.size,1,none⟩=some (.slice aA and_.length ac):=hb5.at_ 1;clear hk5 hb5)
     go_roundw
     case rel =>
      have HF:=hid (HI5.out.to HN.out)
      first | exact ⟨j+1,vs,V,vc,by omega,by go_num,hv16,HF⟩ | ((repeat apply Exists.intro);refine And.intro ?_ rfl;exact ⟨j+1,vs,V,vc,by omega,by go_num,hv16,HF⟩)
     case measure=>simp [RowKit.intOf];omega
   | true =>
     have HOKS:=hid hok
     by_cases g16:vs.length=16
     ·have d16:decide ((vs.length:Int)<16)=false:=decide_eq_false (by omega)
      have d16':decide (vs.length<16)=false:=decide_eq_false (by omega)
      have HN:=hid (fvS_full HP.out (by rw [HVP.out];exact g16))
      clear hok g16
      as_aux_lemma =>
      go_wp2_with (go_at_call 103;(with_reducible refine (HMAY.out _ ((Keep.refl _ _).alloc _)).mono ?_);rintro e1 w5 ⟨rfl,hk5⟩;rw [HOKS.out];have HI5:=hid (HI.out.keep (((Keep.refl (fun _=>False) wr).alloc (.cells #[.int .i64 ak,.slice aA and_.length ac] 129)).then hk5));have c9:w5.cell? ⟨gl,9,none⟩=some (.slice V vs.length vc):=HI5.out.ln.at_ 9;have hb5:=HBQ.out.keep hk5 (fun f=>f);have z0:w5.cell? ⟨wr.heap.size,0,none⟩=some (.int .i64 ak):=hb5.at_ 0;have z1:w5.cell? ⟨wr.heap.size,1,none⟩=some (.slice aA and_.length ac):=hb5.at_ 1;clear hk5 hb5)
      go_roundw
      case rel =>
       have HF:=hid (HI5.out.to HN.out)
       first | exact ⟨j+1,vs,V,vc,by omega,by go_num,hv16,HF⟩ | ((repeat apply Exists.intro);refine And.intro ?_ rfl;exact ⟨j+1,vs,V,vc,by omega,by go_num,hv16,HF⟩)
      case measure=>simp [RowKit.intOf];omega
     ·have d16:decide ((vs.length:Int)<16)=true:=decide_eq_true (by omega)
      have d16':decide (vs.length<16)=true:=decide_eq_true (by omega)
      have HN:=hid (fvS_add HP.out hok (by rw [HVP.out];omega))
      have hv15:vs.length<16:=by omega
      clear hok g16
      as_aux_lemma =>
      go_upto_region 10 with (go_at_call 103;(with_reducible refine (HMAY.out _ ((Keep.refl _ _).alloc _)).mono ?_);rintro e1 w5 ⟨rfl,hk5⟩;rw [HOKS.out];have HI5:=hid (HI.out.keep (((Keep.refl (fun _=>False) wr).alloc (.cells #[.int .i64 ak,.slice aA and_.length ac] 129)).then hk5));have c9:w5.cell? ⟨gl,9,none⟩=some (.slice V vs.length vc):=HI5.out.ln.at_ 9;have hb5:=HBQ.out.keep hk5 (fun f=>f);have z0:w5.cell? ⟨wr.heap.size,0,none⟩=some (.int .i64 ak):=hb5.at_ 0;have z1:w5.cell? ⟨wr.heap.size,1,none⟩=some (.slice aA and_.length ac):=hb5.at_ 1;clear hk5 hb5)
      have HBK:=hid (HI5.out.keep ((Keep.refl (fun _=>False) w5).alloc (.cells #[.int .i64 ak,.slice aA and_.length ac] 129)))
      have HSC:=hid (src_new (w:=w5) (cs:=#[.int .i64 ak,.slice aA and_.length ac]) (t:=129) (news:=(⟨ak,aA,ac,and_⟩:SA).cells) rfl)
      have hlw5:gl<w5.heap.size:=HI5.out.ln.lt
      go_wp2_with (first
       | (at_builtin
          refine ESr.law2 (.tmp 65) (.tmp 67) (.slice V vs.length vc) (some ⟨w5.heap.size,0,none⟩) 1 1 rfl rfl rfl rfl w4.heap.size vs.length (vs.flatMap SA.cells) ((⟨ak,aA,ac,and_⟩:SA).cells) (vs.length+1) ((vs++[(⟨ak,aA,ac,and_⟩:SA)]).flatMap SA.cells) rfl (by rw [List.flatMap_append,List.flatMap_singleton]) HBK.out.own rfl (fun _=>⟨_,rfl,HSC.out⟩) (sa_one _) (by omega) (by unfold maxLen;omega) HBK.out.size ?_
          intro A7 c7 w7 ho7 hg7 hw7
          have HF7:=hid (HBK.out.grow HL4S.out (by have:=HGL.out;omega) ho7 hg7 HMEM.out HN.out)
          have hln:=HBK.out.ln.keep (S:=fun b=>(Value.slice V vs.length vc).ownBlock=some b) ((Keep.refl _ _).grown hg7 (fun x e _=>e)) (fun e=>by have h1:=HBK.out.own.block gl e;have h2:=HL4S.out;omega)
          have c9:w7.cell? ⟨gl,9,none⟩=some (.slice V vs.length vc):=hln.at_ 9
          have f9:=hln.free 9
          clear ho7 hg7 hw7 hln))
      go_roundw
      case rel =>
       have hl1:(vs++[(⟨ak,aA,ac,and_⟩:SA)]).length≤16:=by simp;omega
       first | exact ⟨j+1,vs++[(⟨ak,aA,ac,and_⟩:SA)],A7,c7,by omega,by go_num,hl1,HF7⟩ | ((repeat apply Exists.intro);refine And.intro ?_ rfl;exact ⟨j+1,vs++[(⟨ak,aA,ac,and_⟩:SA)],A7,c7,by omega,by go_num,hl1,HF7⟩)
      case measure=>simp [RowKit.intOf];omega
  ·obtain rfl:j=l.length:=by omega
   obtain ⟨x2,hx2⟩:∃ x2:QA,x2={ x1 with B:=V,bc:=vc,src:=vs }:=⟨_,rfl⟩
   have hln:=HI.out.ln
   rw [←hx2] at hln
   have HE:=hid (show Blk wr gl 53 #[.int .i64 x2.s.call,.int .i64 x2.s.st,.int .i64 x2.s.since,.int .i64 x2.s.cen,.int .i64 x2.s.ep,.string x2.s.name,.int .i64 x2.s.ver,.slice x2.A x2.s.ans.length x2.c,.int .i64 x2.d,.slice x2.B x2.src.length x2.bc,.int .i64 x2.last] from hln)
   have HX2:=hid hx2
   have HQX:=hid (fun (W:World) (hk:Same wr W)=>show QAt W (AvN w Av w4) x2 from by
    have h1:Sl wr (AvN w Av w4) 2 V vs.length (vs.flatMap SA.cells):=HI.out.own.sl (fun g hg ha=>by have:=AvN.lt HAV.out HK4.out.size g ha;omega)
    rw [hx2]
    refine ⟨?_,(SAs.same ⟨h1,fun y hy=>(HSL.out wr w4 HI.out.same).el y (HI.out.mem y hy)⟩ hk)⟩
    rw [HX1.out]
    exact Sl.nil _ _ _ _)
   have HPX:=hid (show x2.pt=newL ((q.R.length:Int)+1) (dn:Int) now (l.map SA.pt) from by
    have h1:=HI.out.pt
    rw [List.take_of_length_le (by simp)] at h1
    rw [hx2,HX1.out]
    simp only [QA.pt,newL]
    rw [h1])
   clear hln hx2 HDI0
   go_upto_region 13 with fail
   refine wp_region_held_drew (S:=fun W=>Blk W gl 53 #[.int .i64 x2.s.call,.int .i64 x2.s.st,.int .i64 x2.s.since,.int .i64 x2.s.cen,.int .i64 x2.s.ep,.string x2.s.name,.int .i64 x2.s.ver,.slice x2.A x2.s.ans.length x2.c,.int .i64 x2.d,.slice x2.B x2.src.length x2.bc,.int .i64 x2.last]) (by kernel_rfl) HE.out (fun hHeld=>?_)
   refine tk 0 ?_
   refine tk 1 ?_
   refine tL 4 (.tmp 12) (gl) 53 (#[.int .i64 x2.s.call,.int .i64 x2.s.st,.int .i64 x2.s.since,.int .i64 x2.s.cen,.int .i64 x2.s.ep,.string x2.s.name,.int .i64 x2.s.ver,.slice x2.A x2.s.ans.length x2.c,.int .i64 x2.d,.slice x2.B x2.src.length x2.bc,.int .i64 x2.last]) (fun W hS=>hS) Tryz.underlying53 ?_
   have hkd:Same wr wr.drew:=(Keep.refl (fun _=>False) wr).drew
   have HMd:=hid (HI.out.hdr.keep hkd (fun f=>f))
   have HEd:=hid (HE.out.keep hkd (fun f=>f))
   have HZd:=hid (HI.out.res.keep hkd (fun f=>f))
   have HKd:=hid (HI.out.same.then hkd)
   have HVd:=hid (HRL.out wr.drew w4 (HI.out.same.then hkd)).L
   have HQd:=hid (fun (W:World) (hk:Same wr.drew W)=>HQX.out W (hkd.then hk))
   have HSd:=hid (show w4.heap.size≤wr.drew.heap.size from HI.out.size)
   clear hHeld HE HQX HI hkd
   generalize wr.drew=wd at *
   apply one_restY (F:=fun _ _ A c _ W=>∃ U,Own U wd.heap.size 53 11 (.slice A (q.R.length+1) c) (q.R.length+1) ((q.R++[x2]).flatMap QA.cells)∧Same wd U∧W=U.setCell ⟨w.heap.size,15,none⟩ (.slice A (q.R.length+1) c))
   case main =>
    intro REST
    refine wpAnyH_ready (rs:=[2,5]) (by kernel_rfl) (by simp) ?_
    refine AllReadyH.cons rfl (fun K hK=>?_) (AllReadyH.cons rfl (fun K hK=>?_) AllReadyH.nil)
    ·have e1:wd.cell? ⟨w.heap.size,15,none⟩=some (.slice q.LA q.R.length q.lc):=(HMd.out.keep (Keep.refl (fun _=>False) wd) (fun f=>f)).at_ 15
     go_simp
     clear e1
     refine hK.out _ _ (HEd.out.keep (Keep.refl (fun _=>False) wd) (fun f=>f)) (fun hHeld1=>?_)
     clear hK K
     refine pput ?_
     refine wpAnyH_ready (rs:=[3,5]) (by kernel_rfl) (by simp) ?_
     refine AllReadyH.cons rfl (fun K hK=>?_) (AllReadyH.cons rfl (fun K hK=>?_) AllReadyH.nil)
     ·refine EQl.step2 rfl (.tmp 71) (.tmp 73) rfl (.slice none 0 0) q.LA q.R.length q.lc rfl rfl wd.heap.size 0 [] (q.R.flatMap QA.cells) q.R.length (q.R.flatMap QA.cells) (Nat.zero_add _) rfl (Own.nil _ _ _ _) (flat_len _ 11 (fun _=>rfl) _) (HVd.out.src (Keep.refl (fun _=>False) wd)) (qas_one _) (by omega) (by unfold maxLen;omega) (Keep.refl (fun _=>False) wd).size (by
       intro A32 c32 u2 ho hg hw
       have HO2:=hid ho
       have hk2:=(Keep.refl (fun _=>False) wd).app (Own.nil wd wd.heap.size 53 11) hg (fun g h1 h2=>by omega)
       have HK2:=hid ((Keep.refl (fun _=>False) wd).then hk2)
       clear ho hg hw hk2
       refine hK.out _ _ (HEd.out.keep HK2.out (fun f=>f)) (fun hHeld2=>?_)
       clear hK K
       refine pput ?_
       refine rd1 5 (fun K hK=>?_)
       go_simp
       have HB3:=hid (Blk.made u2 53 #[.int .i64 x2.s.call,.int .i64 x2.s.st,.int .i64 x2.s.since,.int .i64 x2.s.cen,.int .i64 x2.s.ep,.string x2.s.name,.int .i64 x2.s.ver,.slice x2.A x2.s.ans.length x2.c,.int .i64 x2.d,.slice x2.B x2.src.length x2.bc,.int .i64 x2.last])
       have HK3:=hid (HK2.out.alloc (.cells #[.int .i64 x2.s.call,.int .i64 x2.s.st,.int .i64 x2.s.since,.int .i64 x2.s.cen,.int .i64 x2.s.ep,.string x2.s.name,.int .i64 x2.s.ver,.slice x2.A x2.s.ans.length x2.c,.int .i64 x2.d,.slice x2.B x2.src.length x2.bc,.int .i64 x2.last] 53))
       have HO3:=hid (HO2.out.keepB ((Keep.refl (fun _=>False) u2).alloc (.cells #[.int .i64 x2.s.call,.int .i64 x2.s.st,.int .i64 x2.s.since,.int .i64 x2.s.cen,.int .i64 x2.s.ep,.string x2.s.name,.int .i64 x2.s.ver,.slice x2.A x2.s.ans.length x2.c,.int .i64 x2.d,.slice x2.B x2.src.length x2.bc,.int .i64 x2.last] 53)) (fun _ _ f=>f))
       obtain ⟨g3,hg3⟩:∃ g,g=u2.heap.size:=⟨_,rfl⟩
       rw [←hg3] at HB3 ⊢
       clear hg3
       generalize (u2.alloc (.cells #[.int .i64 x2.s.call,.int .i64 x2.s.st,.int .i64 x2.s.since,.int .i64 x2.s.cen,.int .i64 x2.s.ep,.string x2.s.name,.int .i64 x2.s.ver,.slice x2.A x2.s.ans.length x2.c,.int .i64 x2.d,.slice x2.B x2.src.length x2.bc,.int .i64 x2.last] 53))=u3 at *
       refine hK.out _ _ (HEd.out.keep HK3.out (fun f=>f)) (fun hHeld3=>?_)
       clear hK K
       refine pput ?_
       refine rd1 6 (fun K hK=>?_)
       refine EQl.step2 rfl (.tmp 74) (.tmp 76) rfl (.slice A32 q.R.length c32) (some ⟨g3,0,none⟩) 1 1 rfl rfl wd.heap.size q.R.length (q.R.flatMap QA.cells) x2.cells (q.R.length+1) ((q.R++[x2]).flatMap QA.cells) rfl (by rw [List.flatMap_append,List.flatMap_singleton]) HO3.out rfl (fun _=>⟨_,rfl,src_blk (HB3.out)⟩) (qa_one x2) (by omega) (by unfold maxLen;omega) HK3.out.size (by
        intro A4 c4 u4 ho hg hw
        have HO4:=hid ho
        have HK4:=hid (HK3.out.app HO3.out hg (fun g h1 h2=>by omega))
        have c15:u4.cell? ⟨w.heap.size,15,none⟩=some (.slice q.LA q.R.length q.lc):=(HMd.out.keep HK4.out (fun f=>f)).at_ 15
        have f15:=(HMd.out.keep HK4.out (fun f=>f)).free 15
        clear ho hg hw
        refine hK.out _ _ (HEd.out.keep HK4.out (fun f=>f)) (fun hHeld4=>?_)
        clear hK K
        refine pput ?_
        refine tk 7 ?_
        refine rd1 8 (fun K hK=>?_)
        go_simp
        refine hK.out _ _ ((HEd.out.keep HK4.out (fun f=>f)).far (p:=⟨w.heap.size,15,none⟩) (by have:=HGL.out;show ¬gl=w.heap.size;omega) _) (fun hHeld9=>?_)
        clear hK K
        refine pput ?_
        refine wpAnyH_done (by kernel_rfl) ?_ _
        exact REST A32 c32 A4 c4 g3 _ ⟨_,HO4.out,HK4.out,rfl⟩))
     ·go_simp
      have HB5:=hid (Blk.made wd 53 #[.int .i64 x2.s.call,.int .i64 x2.s.st,.int .i64 x2.s.since,.int .i64 x2.s.cen,.int .i64 x2.s.ep,.string x2.s.name,.int .i64 x2.s.ver,.slice x2.A x2.s.ans.length x2.c,.int .i64 x2.d,.slice x2.B x2.src.length x2.bc,.int .i64 x2.last])
      have HK5:=hid ((Keep.refl (fun _=>False) wd).alloc (.cells #[.int .i64 x2.s.call,.int .i64 x2.s.st,.int .i64 x2.s.since,.int .i64 x2.s.cen,.int .i64 x2.s.ep,.string x2.s.name,.int .i64 x2.s.ver,.slice x2.A x2.s.ans.length x2.c,.int .i64 x2.d,.slice x2.B x2.src.length x2.bc,.int .i64 x2.last] 53))
      obtain ⟨g5,hg5⟩:∃ g,g=wd.heap.size:=⟨_,rfl⟩
      rw [←hg5] at HB5 ⊢
      clear hg5
      generalize (wd.alloc (.cells #[.int .i64 x2.s.call,.int .i64 x2.s.st,.int .i64 x2.s.since,.int .i64 x2.s.cen,.int .i64 x2.s.ep,.string x2.s.name,.int .i64 x2.s.ver,.slice x2.A x2.s.ans.length x2.c,.int .i64 x2.d,.slice x2.B x2.src.length x2.bc,.int .i64 x2.last] 53))=u5 at *
      refine hK.out _ _ (HEd.out.keep HK5.out (fun f=>f)) (fun hHeld5=>?_)
      clear hK K
      refine pput ?_
      refine rd1 3 (fun K hK=>?_)
      refine EQl.step2 rfl (.tmp 71) (.tmp 73) rfl (.slice none 0 0) q.LA q.R.length q.lc rfl rfl wd.heap.size 0 [] (q.R.flatMap QA.cells) q.R.length (q.R.flatMap QA.cells) (Nat.zero_add _) rfl (Own.nil _ _ _ _) (flat_len _ 11 (fun _=>rfl) _) (HVd.out.src HK5.out) (qas_one _) (by omega) (by unfold maxLen;omega) HK5.out.size (by
       intro A36 c36 u6 ho hg hw
       have HO6:=hid ho
       have hk6:=(Keep.refl (fun _=>False) u5).app (Own.nil u5 u5.heap.size 53 11) hg (fun g h1 h2=>by omega)
       have HK6:=hid (HK5.out.then hk6)
       have HB6:=hid (HB5.out.keep hk6 (fun f=>f))
       clear ho hg hw hk6
       refine hK.out _ _ (HEd.out.keep HK6.out (fun f=>f)) (fun hHeld6=>?_)
       clear hK K
       refine pput ?_
       refine rd1 6 (fun K hK=>?_)
       refine EQl.step2 rfl (.tmp 74) (.tmp 76) rfl (.slice A36 q.R.length c36) (some ⟨g5,0,none⟩) 1 1 rfl rfl wd.heap.size q.R.length (q.R.flatMap QA.cells) x2.cells (q.R.length+1) ((q.R++[x2]).flatMap QA.cells) rfl (by rw [List.flatMap_append,List.flatMap_singleton]) HO6.out rfl (fun _=>⟨_,rfl,src_blk (HB6.out)⟩) (qa_one x2) (by omega) (by unfold maxLen;omega) HK6.out.size (by
        intro A4 c4 u7 ho hg hw
        have HO7:=hid ho
        have HK7:=hid (HK6.out.app HO6.out hg (fun g h1 h2=>by omega))
        have c15:u7.cell? ⟨w.heap.size,15,none⟩=some (.slice q.LA q.R.length q.lc):=(HMd.out.keep HK7.out (fun f=>f)).at_ 15
        have f15:=(HMd.out.keep HK7.out (fun f=>f)).free 15
        clear ho hg hw
        refine hK.out _ _ (HEd.out.keep HK7.out (fun f=>f)) (fun hHeld7=>?_)
        clear hK K
        refine pput ?_
        refine tk 7 ?_
        refine rd1 8 (fun K hK=>?_)
        go_simp
        refine hK.out _ _ ((HEd.out.keep HK7.out (fun f=>f)).far (p:=⟨w.heap.size,15,none⟩) (by have:=HGL.out;show ¬gl=w.heap.size;omega) _) (fun hHeld9=>?_)
        clear hK K
        refine pput ?_
        refine wpAnyH_done (by kernel_rfl) ?_ _
        exact REST A36 c36 A4 c4 g5 _ ⟨_,HO7.out,HK7.out,rfl⟩))
    ·go_simp
     have HB8:=hid (Blk.made wd 53 #[.int .i64 x2.s.call,.int .i64 x2.s.st,.int .i64 x2.s.since,.int .i64 x2.s.cen,.int .i64 x2.s.ep,.string x2.s.name,.int .i64 x2.s.ver,.slice x2.A x2.s.ans.length x2.c,.int .i64 x2.d,.slice x2.B x2.src.length x2.bc,.int .i64 x2.last])
     have HK8:=hid ((Keep.refl (fun _=>False) wd).alloc (.cells #[.int .i64 x2.s.call,.int .i64 x2.s.st,.int .i64 x2.s.since,.int .i64 x2.s.cen,.int .i64 x2.s.ep,.string x2.s.name,.int .i64 x2.s.ver,.slice x2.A x2.s.ans.length x2.c,.int .i64 x2.d,.slice x2.B x2.src.length x2.bc,.int .i64 x2.last] 53))
     obtain ⟨g8,hg8⟩:∃ g,g=wd.heap.size:=⟨_,rfl⟩
     rw [←hg8] at HB8 ⊢
     clear hg8
     generalize (wd.alloc (.cells #[.int .i64 x2.s.call,.int .i64 x2.s.st,.int .i64 x2.s.since,.int .i64 x2.s.cen,.int .i64 x2.s.ep,.string x2.s.name,.int .i64 x2.s.ver,.slice x2.A x2.s.ans.length x2.c,.int .i64 x2.d,.slice x2.B x2.src.length x2.bc,.int .i64 x2.last] 53))=u8 at *
     refine hK.out _ _ (HEd.out.keep HK8.out (fun f=>f)) (fun hHeld8=>?_)
     clear hK K
     refine pput ?_
     refine rd1 2 (fun K hK=>?_)
     have e9:u8.cell? ⟨w.heap.size,15,none⟩=some (.slice q.LA q.R.length q.lc):=(HMd.out.keep HK8.out (fun f=>f)).at_ 15
     go_simp
     clear e9
     refine hK.out _ _ (HEd.out.keep HK8.out (fun f=>f)) (fun hHeld9=>?_)
     clear hK K
     refine pput ?_
     refine rd1 3 (fun K hK=>?_)
     refine EQl.step2 rfl (.tmp 71) (.tmp 73) rfl (.slice none 0 0) q.LA q.R.length q.lc rfl rfl wd.heap.size 0 [] (q.R.flatMap QA.cells) q.R.length (q.R.flatMap QA.cells) (Nat.zero_add _) rfl (Own.nil _ _ _ _) (flat_len _ 11 (fun _=>rfl) _) (HVd.out.src HK8.out) (qas_one _) (by omega) (by unfold maxLen;omega) HK8.out.size (by
      intro A310 c310 u10 ho hg hw
      have HO10:=hid ho
      have hk10:=(Keep.refl (fun _=>False) u8).app (Own.nil u8 u8.heap.size 53 11) hg (fun g h1 h2=>by omega)
      have HK10:=hid (HK8.out.then hk10)
      have HB10:=hid (HB8.out.keep hk10 (fun f=>f))
      clear ho hg hw hk10
      refine hK.out _ _ (HEd.out.keep HK10.out (fun f=>f)) (fun hHeld10=>?_)
      clear hK K
      refine pput ?_
      refine rd1 6 (fun K hK=>?_)
      refine EQl.step2 rfl (.tmp 74) (.tmp 76) rfl (.slice A310 q.R.length c310) (some ⟨g8,0,none⟩) 1 1 rfl rfl wd.heap.size q.R.length (q.R.flatMap QA.cells) x2.cells (q.R.length+1) ((q.R++[x2]).flatMap QA.cells) rfl (by rw [List.flatMap_append,List.flatMap_singleton]) HO10.out rfl (fun _=>⟨_,rfl,src_blk (HB10.out)⟩) (qa_one x2) (by omega) (by unfold maxLen;omega) HK10.out.size (by
       intro A4 c4 u11 ho hg hw
       have HO11:=hid ho
       have HK11:=hid (HK10.out.app HO10.out hg (fun g h1 h2=>by omega))
       have c15:u11.cell? ⟨w.heap.size,15,none⟩=some (.slice q.LA q.R.length q.lc):=(HMd.out.keep HK11.out (fun f=>f)).at_ 15
       have f15:=(HMd.out.keep HK11.out (fun f=>f)).free 15
       clear ho hg hw
       refine hK.out _ _ (HEd.out.keep HK11.out (fun f=>f)) (fun hHeld11=>?_)
       clear hK K
       refine pput ?_
       refine tk 7 ?_
       refine rd1 8 (fun K hK=>?_)
       go_simp
       refine hK.out _ _ ((HEd.out.keep HK11.out (fun f=>f)).far (p:=⟨w.heap.size,15,none⟩) (by have:=HGL.out;show ¬gl=w.heap.size;omega) _) (fun hHeld9=>?_)
       clear hK K
       refine pput ?_
       refine wpAnyH_done (by kernel_rfl) ?_ _
       exact REST A310 c310 A4 c4 g8 _ ⟨_,HO11.out,HK11.out,rfl⟩))
   case rest =>
    intro A3 c3 A4 c4 g4 W hF
    obtain ⟨U,ho,hk,hW⟩:=hF
    have hgl:=HGL.out
    have hl4:=HL4S.out
    have hsd:=HSd.out
    obtain ⟨q4,hq4⟩:∃ q4:QS,q4={ q with LA:=A4,lc:=c4,R:=q.R++[x2] }:=⟨_,rfl⟩
    have hkp:Keep (fun i=>i=w.heap.size) U W:=by rw [hW];exact (Keep.refl _ U).put 15 _
    have HM4:=hid (show Blk W w.heap.size 35 q4.cells.toArray from by
     have h1:=(HMd.out.keep hk (fun f=>f)).put 15 (.slice A4 (q.R.length+1) c4)
     rw [←hW] at h1
     rw [show q4.cells.toArray=q.cells.toArray.setIfInBounds 15 (.slice A4 (q.R.length+1) c4) from by rw [hq4];simp [QS.cells]]
     exact h1)
    have HZ4:=hid ((HZd.out.keep hk (fun f=>f)).keep hkp (fun e=>by have e2:w.heap.size+1=w.heap.size:=e;omega))
    have HE4:=hid ((HEd.out.keep hk (fun f=>f)).keep hkp (fun e=>by have e2:gl=w.heap.size:=e;omega))
    have hks:Same w W:=(HKd.out.then hk).trans hkp (fun j hj e=>by have e2:j=w.heap.size:=e;omega)
    have HQ4:=hid (show RX W (AvN w Av w4) q4 from by
     have h0:=HRL.out W w4 hks
     have hA0:AvN w Av w4 w.heap.size:=.inr ⟨Nat.le_refl _,by omega⟩
     have hv:Sl W (AvN w Av w4) 11 A4 (q.R.length+1) ((q.R++[x2]).flatMap QA.cells):=by
      refine (ho.keepB hkp (fun g hg e=>?_)).sl (fun g hg ha=>?_)
      ·have e2:g=w.heap.size:=e
       have h1:=ho.block g hg
       omega
      ·have h1:=AvN.lt HAV.out HK4.out.size g ha
       omega
     rw [hq4]
     refine ⟨by simpa using hv,fun z hz=>?_,h0.who,h0.ep,h0.out,h0.body,h0.ev⟩
     rcases List.mem_append.1 hz with hz | hz
     ·exact h0.lin z hz
     ·rw [List.mem_singleton] at hz
      subst hz
      have h1:=HQd.out U hk
      exact ⟨h1.an.keep hkp (fun j _ e=>by have e2:j=w.heap.size:=e;rw [e2];exact hA0),h1.src.keep hkp (fun j _ e=>by have e2:j=w.heap.size:=e;rw [e2];exact hA0)⟩)
    have HP4:=hid (show q4.pt=q.pt.add x2.pt from by rw [hq4];simp [QS.pt,XS.add])
    have HC4:=hid (show q4.c=q.c from by rw [hq4])
    have HEV4:=hid (show q4.ev=q.ev from by rw [hq4])
    have HK4b:=hid hks
    have HSW:=hid (show w4.heap.size≤W.heap.size from Nat.le_trans hsd (Nat.le_trans hk.size hkp.size))
    have HXD:=hid (show x2.d=(dn:Int) from by rw [HX2.out,HX1.out])
    clear ho hk hW hq4 hkp hks hgl hl4 hsd HMd HEd HZd HKd HVd HQd HSd
    have y8:W.cell? ⟨gl,8,none⟩=some (.int .i64 (dn:Int)):=by rw [←HXD.out];exact HE4.out.at_ 8
    have HEV:=hid (show Calls Tryz.prog 104 #[.agg q4.cells.toArray,.agg #[.int .i64 2,.int .i64 now,.int .i64 (dn:Int),.int .i64 ((q.R.length:Int)+1),.int .i64 0,.int .i64 0,.int .i64 0,.int .i64 0,.slice none 0 0,.int .i64 0,.int .i64 0,.int .i64 0,.int .i64 0,.int .i64 0,.int .i64 0,.int .i64 0,.int .i64 0,.int .i64 0,.int .i64 0,.int .i64 0,.int .i64 0,.int .i64 0,.int .i64 0,.int .i64 0,.int .i64 0,.slice none 0 0,.slice none 0 0,.slice none 0 0]] W (QPost W (AvN w Av w4) q4.c (q4.pt.evt ⟨2,now,(dn:Int),(q.R.length:Int)+1,0,0⟩)) from
     event_any W _ (fun j hj=>Nat.lt_of_lt_of_le (AvN.lt HAV.out HK4.out.size j hj) HSW.out) q4 HQ4.out (by rw [HEV4.out];have:=HML.out.2.1;omega) ⟨2,now,(dn:Int),(q.R.length:Int)+1,0,0⟩)
    unfold QPost at HEV
    go_upto_region 15 with (first
     | (refine wpList_load_row rfl _ (.tmp 4) rfl w.heap.size rfl _ q4.cells.toArray (0,0) _ HM4.out Tryz.underlying35 rfl (by kernel_rfl) ?_)
     | (go_at_call 104;(with_reducible refine HEV.out.mono ?_);rintro e w5 ⟨q5,rfl,hr5,hp5,hc5,hk5⟩
        have HR5:=hid hr5
        have HP5:=hid hp5
        have HC5:=hid hc5
        have HK5:=hid hk5
        have HM5:=hid (HM4.out.keep hk5 (fun f=>f))
        clear hr5 hp5 hc5 hk5)
     | (refine wpList_store_row rfl _ (.tmp 4) (.tmp 85) rfl w.heap.size q5.cells.toArray rfl rfl _ _ HM5.out (by kernel_rfl) rfl (one_toArray (q_one q5)) ?_))
    have hkr:Keep (fun j=>j=w.heap.size) w5 (w5.setRow w.heap.size q5.cells.toArray):=Keep.row _ _ _
    have hgl:=HGL.out
    have hl4:=HL4S.out
    have HM6:=hid (HM5.out.row q5.cells.toArray)
    have HZ6:=hid ((HZ4.out.keep HK5.out (fun f=>f)).keep hkr (fun e=>by have e2:w.heap.size+1=w.heap.size:=e;omega))
    have HK6:=hid ((HK4b.out.then HK5.out).trans hkr (fun j hj e=>by have e2:j=w.heap.size:=e;omega))
    have HR6:=hid (HR5.out.keep hkr (fun j _ e=>.inr (by have e2:j=w.heap.size:=e;omega)))
    have HS6:=hid (Nat.le_trans HSW.out (Nat.le_trans HK5.out.size hkr.size))
    have hpt:q5.pt=(q.pt.add x2.pt).evt ⟨2,now,(dn:Int),(q.R.length:Int)+1,0,0⟩:=by rw [HP5.out,HP4.out]
    have hql:q.pt.L.length=q.R.length:=by simp [QS.pt]
    have hR5:q5.R.length=q.R.length+1:=by
     have h1:q5.pt.L.length=((q.pt.add x2.pt).evt ⟨2,now,(dn:Int),(q.R.length:Int)+1,0,0⟩).L.length:=congrArg (fun X=>X.L.length) hpt
     have h2:q5.pt.L.length=q5.R.length:=by simp [QS.pt]
     have h3:((q.pt.add x2.pt).evt ⟨2,now,(dn:Int),(q.R.length:Int)+1,0,0⟩).L.length=q.pt.L.length+1:=by simp [XS.add,XS.evt]
     omega
    have hO5:q5.out.length=q.out.length:=by
     have h1:q5.pt.out.length=q.pt.out.length:=congrArg (fun X=>X.out.length) hpt
     have h2:q5.pt.out.length=q5.out.length:=by simp [QS.pt]
     have h3:q.pt.out.length=q.out.length:=by simp [QS.pt]
     omega
    have hE5:q5.ev.length=q.ev.length+1:=by
     have h1:q5.pt.ev=q.pt.ev++[⟨2,now,(dn:Int),(q.R.length:Int)+1,0,0⟩]:=congrArg XS.ev hpt
     have h2:q5.ev=q.ev++[⟨2,now,(dn:Int),(q.R.length:Int)+1,0,0⟩]:=h1
     rw [h2];simp
    obtain ⟨x5,hx5,hx5p⟩:=QS.line_at hpt (k:=q.R.length) (l:=x2.pt) (by
     show (q.pt.L++[x2.pt])[q.R.length]? = _
     rw [←hql,List.getElem?_append_right (Nat.le_refl _),Nat.sub_self];rfl)
    obtain ⟨a,b,ha,hb,hh,_⟩:=HOK.out.hold HDD.out
    have hda:=dial_assign (call:=(q.R.length:Int)+1) (src:=l.map SA.pt) HOK.out HDD.out HV.out
    rw [hh] at hda
    have hlk:=newL_ok (call:=(q.R.length:Int)+1) (d:=(dn:Int)) (src:=l.map SA.pt) ⟨by omega,by omega⟩ (by have h1:=HDD.out;have h2:=HOK.out.c9;omega) HV.out
    have hml:=HML.out
    have hd5:x5.d=(dn:Int):=by
     have h1:x5.pt.d=x2.pt.d:=by rw [hx5p]
     exact h1.trans HXD.out
    have hs5:x5.s=(newL ((q.R.length:Int)+1) (dn:Int) now (l.map SA.pt)).s:=by
     have h1:x5.pt.s=x2.pt.s:=by rw [hx5p]
     rw [HPX.out] at h1
     exact h1
    have hw5:q5.who=q.who:=congrArg XS.who hpt
    have he5:q5.ep=q.ep:=congrArg XS.ep hpt
    have ha5:q5.who[dn]? = some a:=by rw [hw5];exact ha
    have hb5:q5.ep[dn]? = some b:=by rw [he5];exact hb
    have hE9:assignE x5.s a b now=0:=by rw [hs5];exact hda
    have hl9:LnOk x5.pt:=by rw [hx5p,HPX.out];exact hlk
    have HBI:=hid (bindQ (w5.setRow w.heap.size q5.cells.toArray) (AvN w Av w4) (fun j hj=>Nat.lt_of_lt_of_le (AvN.lt HAV.out HK4.out.size j hj) HS6.out) q5 HR6.out (by omega) (by omega) (by omega) now HV.out q.R.length x5 hx5 hl9 dn hd5 a b ha5 hb5 hE9)
    unfold QPost at HBI
    have z15:(w5.setRow w.heap.size q5.cells.toArray).cell? ⟨w.heap.size,15,none⟩=some (.slice q5.LA (q.R.length+1) q5.lc):=(HM6.out.at_ 15).trans (by rw [←hR5];rfl)
    have HPT:=hid hpt
    have HX5:=hid hx5p
    clear hd5 hs5 hw5 he5 ha5 hb5 hE9 hl9
    clear hkr hpt hql hR5 hO5 hE5 hx5 hx5p ha hb hh hda hlk hml y8
    generalize (w5.setRow w.heap.size q5.cells.toArray)=w6 at *
    go_wp2_with (first
     | (refine wpList_load_row rfl _ (.tmp 4) rfl w.heap.size rfl _ q5.cells.toArray (0,0) _ HM6.out Tryz.underlying35 rfl (by kernel_rfl) ?_)
     | (go_at_call 105;(with_reducible refine HBI.out.mono ?_);rintro e w7 ⟨q7,rfl,hr7,hp7,hc7,hk7⟩
        have HR7:=hid hr7
        have HP7:=hid hp7
        have HC7:=hid hc7
        have HK7:=hid hk7
        have HZ7:=hid (HZ6.out.keep hk7 (fun f=>f))
        clear hr7 hp7 hc7 hk7)
     | (refine wpList_store_row rfl _ (.tmp 8) (.tmp 92) rfl (w.heap.size+1) q7.cells.toArray rfl rfl _ _ HZ7.out (by kernel_rfl) rfl (one_toArray (q_one q7)) ?_))
    have hkr:Keep (fun j=>j=w.heap.size+1) w7 (w7.setRow (w.heap.size+1) q7.cells.toArray):=Keep.row _ _ _
    refine bodyPost_ret (results_cell_tmp2 rfl _ _ _ _ _ _ _ _ _ rfl rfl rfl (HZ7.out.row _) Tryz.underlying35 rfl (by kernel_rfl)) rfl ⟨q7,rfl,?_,?_,by rw [HC7.out,HC5.out,HC4.out],(HK6.out.then HK7.out).trans hkr (fun j hj e=>by have e2:j=w.heap.size+1:=e;omega)⟩
    ·exact (HR7.out.keep hkr (fun j _ e=>.inr (by have e2:j=w.heap.size+1:=e;omega))).wide (fun j _ hj=>.inl hj)
    ·rw [HP7.out,HPT.out,HX5.out,HPX.out,HDI.out]
theorem dialQ (w:World) (Av:Nat→Prop) (hAv:∀ i,Av i→i<w.heap.size) (q:QS) (h:RX w Av q) (hD:Sl w Av 1 q.c.D q.c.dis.length (icells q.c.dis)) (hok:XOk q.pt) (hn:q.R.length≤900) (hno:q.out.length≤800000) (hne:q.ev.length≤800000) (hdl:q.c.dis.length≤100000) (node:Int) (B:Option Addr) (cb:Nat) (l:List SA) (hs:SAs w Av B l) (hsn:l.length≤1000) (hnd:∀ x∈l,x.nd.length≤1000) (now:Int):Calls Tryz.prog 59 #[.agg q.cells.toArray,.int .i64 node,.slice B l.length cb,.int .i64 now] w (DQPost w Av q.c (q.pt.dial node (l.map SA.pt) now) (q.pt.dialI node now) (q.pt.dialE node now)):=by
 have hdis:q.pt.dis=q.c.dis:=rfl
 have hbad:¬((0≤node∧node<(q.c.dis.length:Int))∧vN now 0=true)→q.pt.dial node (l.map SA.pt) now=q.pt∧q.pt.dialI node now=0∧q.pt.dialE node now=1:=fun hh=>by
  have hE:q.pt.dialE node now=1:=by unfold XS.dialE;rw [hdis,if_neg hh]
  refine ⟨?_,?_,hE⟩
  ·unfold XS.dial;rw [hE,if_neg (by decide)]
  ·unfold XS.dialI;rw [hE,if_neg (by decide)]
 by_cases h1:node<0
 ·obtain ⟨e1,e2,e3⟩:=hbad (fun hh=>by omega)
  rw [e1,e2,e3]
  exact dial_neg w Av hAv q h hD hok hn hno hne hdl node B cb l hs hsn hnd now h1
 ·by_cases h2:(q.c.dis.length:Int)≤node
  ·obtain ⟨e1,e2,e3⟩:=hbad (fun hh=>by omega)
   rw [e1,e2,e3]
   exact dial_far w Av hAv q h hD hok hn hno hne hdl node B cb l hs hsn hnd now (by omega) h2
  ·cases hv:vN now 0 with
   | false =>
     obtain ⟨e1,e2,e3⟩:=hbad (fun hh=>by have:=hh.2;rw [hv] at this;cases this)
     rw [e1,e2,e3]
     exact dial_tick w Av hAv q h hD hok hn hno hne hdl node B cb l hs hsn hnd now (by omega) (by omega) hv
   | true =>
     have hE:q.pt.dialE node now=0:=by unfold XS.dialE;rw [hdis,if_pos ⟨⟨by omega,by omega⟩,hv⟩]
     have hI:q.pt.dialI node now=(q.R.length:Int)+1:=by
      unfold XS.dialI;rw [hE,if_pos rfl]
      simp [QS.pt]
     rw [hE,hI]
     exact dial_good w Av hAv q h hD hok hn hno hne hdl node B cb l hs hsn hnd now (by omega) (by omega) hv
theorem few_src {a:AT} (h:fewA a=true):(a.src.length≤20∧∀ x∈a.src,x.nd.length≤210)∧a.note.body.length≤200∧a.sp.length≤200:=by
 unfold fewA smB at h
 simp only [Bool.and_eq_true,decide_eq_true_eq,List.all_eq_true] at h
 exact ⟨⟨h.1.1.2,h.1.1.1⟩,h.1.2,h.2⟩
section
variable {w:World} {T:Tags} {p:PS}
theorem hdr_no (h:PX w T p) {t:Tag} (ht:t≠.hdr):∀ i,i=p.x→T i≠some t:=fun i hi e=>by
 rw [hi,h.tx] at e;injection e with e;exact ht e.symm
theorem PX.noOut (h:PX w T p):PX (w.setCell ⟨p.x,5,none⟩ (.slice none 0 0)) T { p with out:=[],ov:=.slice none 0 0 }∧Mv w T (w.setCell ⟨p.x,5,none⟩ (.slice none 0 0)) T (· = p.x):=by
 have m:=h.setHdr 5 (.slice none 0 0)
 have hN:∀ i,i=p.x→T i≠none:=fun i hi=>by rw [hi,h.tx];exact fun h=>by cases h
 have hh:=h.hdr.put 5 (.slice none 0 0)
 refine ⟨⟨by simpa [PS.cells] using hh,h.tx,m.slice hN h.dis,h.hold.move m (hdr_no h (fun h=>by cases h)),h.lines.move m (hdr_no h (fun h=>by cases h)),fun k x hx=>(h.recs k x hx).move m hN (fun i hi=>⟨hdr_no h (fun h=>by cases h) i hi,hdr_no h (fun h=>by cases h) i hi,hdr_no h (fun h=>by cases h) i hi⟩),⟨Own.nil _ _ _ _,fun g hg=>by cases hg⟩,(fun y hy=>by cases hy),h.ev.move m (hdr_no h (fun h=>by cases h)),m.lt⟩,m⟩
theorem PX.noEv (h:PX w T p):PX (w.setCell ⟨p.x,6,none⟩ (.slice none 0 0)) T { p with ev:=[],evv:=.slice none 0 0 }∧Mv w T (w.setCell ⟨p.x,6,none⟩ (.slice none 0 0)) T (· = p.x):=by
 have m:=h.setHdr 6 (.slice none 0 0)
 have hN:∀ i,i=p.x→T i≠none:=fun i hi=>by rw [hi,h.tx];exact fun h=>by cases h
 have hh:=h.hdr.put 6 (.slice none 0 0)
 refine ⟨⟨by simpa [PS.cells] using hh,h.tx,m.slice hN h.dis,h.hold.move m (hdr_no h (fun h=>by cases h)),h.lines.move m (hdr_no h (fun h=>by cases h)),fun k x hx=>(h.recs k x hx).move m hN (fun i hi=>⟨hdr_no h (fun h=>by cases h) i hi,hdr_no h (fun h=>by cases h) i hi,hdr_no h (fun h=>by cases h) i hi⟩),h.out.move m (hdr_no h (fun h=>by cases h)),fun y hy=>m.slice hN (h.body y hy),⟨Own.nil _ _ _ _,fun g hg=>by cases hg⟩,m.lt⟩,m⟩
end
set_option maxHeartbeats 8000000 in
set_option maxRecDepth 100000 in
theorem do_dial {w:World} {T:Tags} {p:PS} {q:QS} {c:CF} {b:Nat} (J:JJ w T p q c b) (hb:b≤60) (a:AT) (ha:ATok w (fun i=>T i≠none) a) (hf:fewA a=true) (hk:a.k=0):Calls Tryz.prog 29 #[.pointer (some ⟨p.x,0,none⟩),.agg q.cells.toArray,.agg a.cells.toArray] w (DoP w T p.x q.pt c b a):=by
 have hm:=((Blk.made w 35 q.cells.toArray).alloc (.cells a.cells.toArray 63)).alloc (.cells zero20.toArray 35)
 have he:=(Blk.made (w.alloc (.cells q.cells.toArray 35)) 63 a.cells.toArray).alloc (.cells zero20.toArray 35)
 have hz:=Blk.made ((w.alloc (.cells q.cells.toArray 35)).alloc (.cells a.cells.toArray 63)) 35 zero20.toArray
 have hw:Same w (((w.alloc (.cells q.cells.toArray 35)).alloc (.cells a.cells.toArray 63)).alloc (.cells zero20.toArray 35)):=(((Keep.refl _ _).alloc _).alloc _).alloc _
 rw [World.size_alloc] at he
 rw [World.size_alloc,World.size_alloc] at hz
 generalize hw1:(((w.alloc (.cells q.cells.toArray 35)).alloc (.cells a.cells.toArray 63)).alloc (.cells zero20.toArray 35))=w1 at *
 have hsz:w1.heap.size=w.heap.size+3:=by rw [←hw1];simp only [World.size_alloc]
 have hJ1:=J.rsv hw
 have hT0:(T.rsv w.heap.size w1.heap.size) w.heap.size=some .rsv:=Tags.rsv_at (by omega) (by omega)
 have hT1:(T.rsv w.heap.size w1.heap.size) (w.heap.size+1)=some .rsv:=Tags.rsv_at (by omega) (by omega)
 have hT2:(T.rsv w.heap.size w1.heap.size) (w.heap.size+1+1)=some .rsv:=Tags.rsv_at (by omega) (by omega)
 have HM:=hid hm
 have HE:=hid he
 have HZ:=hid hz
 have HW:=hid hw
 have HJ:=hid J
 have HJ1:=hid hJ1
 have HSZ:=hid hsz
 have HT:=hid (And.intro hT0 (And.intro hT1 hT2))
 have HB:=hid hb
 have HF:=hid hf
 have HA:=hid (ha.step (Mv.rsv J.px.lt hw) (fun _ f=>f.elim))
 have HLN:=hid (And.intro J.lens hJ1.n)
 have h03:w.heap.size<w1.heap.size:=by omega
 have h13:w.heap.size+1<w1.heap.size:=by omega
 have hact:∀ X:XS,actX X a (bodyA a)=X.dial a.node (a.src.map SA.pt) a.now:=fun X=>by unfold actX;rw [if_pos hk]
 have HACT:=hid hact
 have hrl:=HLN.out
 have HEQ:=hid J.eq
 have hfs:=few_src hf
 have HFS:=hid hfs
 have HCX:=hid (dialX HJ1.out.px (by rw [HJ1.out.eq];exact HJ1.out.ok) (by omega) (by omega) (by rw [hrl.1.2.2];omega) a.node a.SB a.sc a.src (HA.out.src.wide (fun _ _ f=>f.elim)) (by have:=hfs.1.1;omega) (fun x hx=>by have:=hfs.1.2 x hx;omega) a.now)
 unfold DPost PPost PP at HCX
 have y0:w1.cell? ⟨w.heap.size+1,0,none⟩=some (.int .i64 0):=by rw [←hk];exact he.at_ 0
 have y1:w1.cell? ⟨w.heap.size+1,1,none⟩=some (.int .i64 a.node):=he.at_ 1
 have y2:w1.cell? ⟨w.heap.size+1,2,none⟩=some (.slice a.SB a.src.length a.sc):=he.at_ 2
 have y15:w1.cell? ⟨w.heap.size+1,15,none⟩=some (.int .i64 a.now):=he.at_ 15
 have HKK:=hid hk
 clear hk hact hrl hfs
 clear hm he hz hw J hb ha hf hsz hJ1 hT0 hT1 hT2
 go_enter Tryz.func29,Tryz.ntmps29
 go_upto_region 1 with fail
 try simp only [zero20] at hw1
 try rw [hw1]
 clear hw1
 go_upto_region 4 with (first
  | (go_at_call 34
     (with_reducible refine HCX.out.mono ?_)
     rintro e1 w2 ⟨lv9,rfl,p2,T2,S2,hx2,_,hpt2,hp2,m2,hS2⟩
     have HX2:=hid hx2
     have HPT2:=hid hpt2
     have HP2:=hid hp2
     have HMV2:=hid m2
     have HS2:=hid hS2
     have HM2:=hid (HM.out.keep m2.keep (fun h=>Tags.rsv_off HT.out.1 (hS2 _ h)))
     have HE2:=hid (HE.out.keep m2.keep (fun h=>Tags.rsv_off HT.out.2.1 (hS2 _ h)))
     have HZ2:=hid (HZ.out.keep m2.keep (fun h=>Tags.rsv_off HT.out.2.2 (hS2 _ h)))
     have HR2:=hid (HJ1.out.rx.step m2 (fun i hs=>(hS2 i hs).1))
     have HLT2:=hid (fun i (h:T2 i≠none)=>hp2.lt i h)
     have y1:w2.cell? ⟨w.heap.size+1,1,none⟩=some (.int .i64 a.node):=HE2.out.at_ 1
     have y2:w2.cell? ⟨w.heap.size+1,2,none⟩=some (.slice a.SB a.src.length a.sc):=HE2.out.at_ 2
     have y15:w2.cell? ⟨w.heap.size+1,15,none⟩=some (.int .i64 a.now):=HE2.out.at_ 15
     clear hx2 hpt2 hp2 m2 hS2))
 have HCR:=hid (dialQ w2 _ HLT2.out q HR2.out (by rw [HJ1.out.cfg];exact HMV2.out.slice (fun i hi=>(HS2.out i hi).1) HJ1.out.dis) HJ1.out.ok (by have:=HLN.out;have:=HB.out;omega) (by have:=HLN.out;have:=HB.out;omega) (by have:=HLN.out;have:=HB.out;omega) (by rw [HJ1.out.cfg];have:=HJ1.out.dl;omega) a.node a.SB a.sc a.src (HA.out.step HMV2.out (fun i hi=>(HS2.out i hi).1)).src (by have:=HFS.out.1.1;omega) (fun x hx=>by have:=HFS.out.1.2 x hx;omega) a.now)
 unfold DQPost at HCR
 rw [HEQ.out]
 go_upto_region 5 with (first
  | (refine wpList_load_row rfl _ (.tmp 4) rfl w.heap.size rfl _ q.cells.toArray (0,0) _ HM2.out Tryz.underlying35 rfl (by kernel_rfl) ?_)
  | (go_at_call 59
     (with_reducible refine HCR.out.mono ?_)
     rintro e3 w3 ⟨q3,rfl,hr3,hp3,hc3,hk3⟩
     have HR3:=hid hr3
     have HP3:=hid hp3
     have HC3:=hid hc3
     have HK3:=hid hk3
     have HZN:=hid (Blk.made w3 35 #[.int .i64 0,.slice none 0 0,.slice none 0 0,.slice none 0 0,.slice none 0 0,.int .i64 0,.int .i64 0,.int .i64 0,.int .i64 0,.int .i64 0,.int .i64 0,.int .i64 0,.int .i64 0,.int .i64 0,.int .i64 0,.slice none 0 0,.slice none 0 0,.slice none 0 0,.slice none 0 0,.slice none 0 0])
     clear hr3 hp3 hc3 hk3)
  | (refine wpList_store_row rfl _ (.tmp 10) (.tmp 47) rfl w3.heap.size q3.cells.toArray rfl rfl _ _ HZN.out (by kernel_rfl) rfl (one_toArray (q_one q3)) ?_))
 have hL4:Blk ((w3.alloc (.cells #[.int .i64 0,.slice none 0 0,.slice none 0 0,.slice none 0 0,.slice none 0 0,.int .i64 0,.int .i64 0,.int .i64 0,.int .i64 0,.int .i64 0,.int .i64 0,.int .i64 0,.int .i64 0,.int .i64 0,.int .i64 0,.slice none 0 0,.slice none 0 0,.slice none 0 0,.slice none 0 0,.slice none 0 0] 35)).setRow w3.heap.size q3.cells.toArray) w3.heap.size 35 q3.cells.toArray:=HZN.out.row _
 have hk4:Same w3 ((w3.alloc (.cells #[.int .i64 0,.slice none 0 0,.slice none 0 0,.slice none 0 0,.slice none 0 0,.int .i64 0,.int .i64 0,.int .i64 0,.int .i64 0,.int .i64 0,.int .i64 0,.int .i64 0,.int .i64 0,.int .i64 0,.int .i64 0,.slice none 0 0,.slice none 0 0,.slice none 0 0,.slice none 0 0,.slice none 0 0] 35)).setRow w3.heap.size q3.cells.toArray):=((Keep.refl (fun _=>False) w3).alloc _).trans (Keep.row _ _ _) (fun j hj e=>by have e2:j=w3.heap.size:=e;omega)
 obtain ⟨gn,hgn⟩:∃ g,g=w3.heap.size:=⟨_,rfl⟩
 rw [←hgn] at hL4 hk4 ⊢
 have HL4:=hid hL4
 have HK4:=hid (HK3.out.then hk4)
 have HR4:=hid (HR3.out.same hk4)
 have HZ4:=hid (HZ2.out.keep (HK3.out.then hk4) (fun f=>f))
 clear hL4 hk4 hgn HZN
 generalize ((w3.alloc (.cells #[.int .i64 0,.slice none 0 0,.slice none 0 0,.slice none 0 0,.slice none 0 0,.int .i64 0,.int .i64 0,.int .i64 0,.int .i64 0,.int .i64 0,.int .i64 0,.int .i64 0,.int .i64 0,.int .i64 0,.int .i64 0,.slice none 0 0,.slice none 0 0,.slice none 0 0,.slice none 0 0,.slice none 0 0] 35)).setRow gn q3.cells.toArray)=w4 at *
 have HD:=hid (do_end HJ.out HB.out a HW.out HMV2.out HS2.out HP2.out HX2.out (by rw [HPT2.out,HEQ.out,HACT.out]) HK4.out (fun _ f=>f.elim) (fun _ f=>f.elim) HR4.out (by rw [HP3.out,HACT.out]) (HC3.out.trans HJ.out.cfg) (show w.heap.size≤w.heap.size+1+1 by omega) (by have:=HSZ.out;omega))
 go_wp2_with (first
  | (refine wpList_load_row rfl _ (.tmp 10) rfl gn rfl _ q3.cells.toArray (0,0) _ HL4.out Tryz.underlying35 rfl (by kernel_rfl) ?_)
  | (refine wpList_store_row rfl _ (.tmp 6) (.tmp 50) rfl (w.heap.size+1+1) q3.cells.toArray rfl rfl _ _ HZ4.out (by kernel_rfl) rfl (one_toArray (q_one q3)) ?_))
 refine bodyPost_ret (results_cell_tmp rfl _ _ _ _ _ _ _ _ rfl rfl (HZ4.out.row _) Tryz.underlying35 rfl (by kernel_rfl)) rfl ?_
 exact HD.out
end Go.Proofs.YtbjddfiledoaoaaGreat

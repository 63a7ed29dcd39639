import Derived.Test.YtbjddfiledoaoaaGreatYO
import Derived.Test.YtbjddfiledoaoaaGreatYN
namespace Go.Proofs.YtbjddfiledoaoaaGreat
open Go.RowKit
def Tags.rsv (T:Tags) (a b:Nat):Tags:=fun i=>if a≤i∧i<b then some .rsv else T i
section
variable {w w' w1 w2 w3:World} {T T' T1:Tags} {S:Nat→Prop} {p:PS} {q:QS}
theorem PX.mvR (h:PX w T p) (m:Mv w T w' T' S) (hS:∀ i,S i→T i=some .rsv):PX w' T' p:=by
 have hN:∀ i,S i→T i≠none:=fun i hi=>by rw [hS i hi];exact fun h=>by cases h
 have hO:∀ t:Tag,t≠.rsv→∀ i,S i→T i≠some t:=fun t ht i hi e=>by rw [hS i hi] at e;injection e with e;exact ht e.symm
 exact ⟨h.hdr.keep m.keep (fun hs=>hO .hdr (fun h=>by cases h) _ hs h.tx),(m.old _ h.hdr.lt).trans h.tx,m.slice hN h.dis,h.hold.move m (hO _ (fun h=>by cases h)),h.lines.move m (hO _ (fun h=>by cases h)),
  fun k x hx=>(h.recs k x hx).move m hN (fun i hi=>⟨hO _ (fun h=>by cases h) i hi,hO _ (fun h=>by cases h) i hi,hO _ (fun h=>by cases h) i hi⟩),h.out.move m (hO _ (fun h=>by cases h)),fun y hy=>m.slice hN (h.body y hy),h.ev.move m (hO _ (fun h=>by cases h)),m.lt⟩
theorem Mv.rsv (hl:∀ i,T i≠none→i<w.heap.size) (hk:Same w w1):Mv w T w1 (T.rsv w.heap.size w1.heap.size) (fun _=>False) :=
 ⟨hk,fun i hi=>by unfold Tags.rsv;rw [if_neg (by omega)],fun i hi=>by
  unfold Tags.rsv at hi
  split at hi
  ·rename_i h;exact h.2
  ·exact Nat.lt_of_lt_of_le (hl i hi) hk.size⟩
theorem Tags.rsv_at {a b i:Nat} (h1:a≤i) (h2:i<b):T.rsv a b i=some .rsv:=by unfold Tags.rsv;rw [if_pos ⟨h1,h2⟩]
theorem Tags.rsv_off {i:Nat} (h:T i=some .rsv):¬T.on i:=fun hh=>hh.2 h
theorem Mv.put (hl:∀ i,T i≠none→i<w.heap.size) (hk:Keep S w w'):Mv w T w' T S:=⟨hk,fun _ _=>rfl,fun i hi=>Nat.lt_of_lt_of_le (hl i hi) hk.size⟩
theorem Mv.av (m:Mv w T w' T' S):∀ i,i<w.heap.size→T' i≠none→T i≠none:=fun i hi h=>by rw [←m.old i hi];exact h
theorem RX.step (h:RX w (fun i=>T i≠none) q) (m:Mv w T w' T' S) (hS:∀ i,S i→T i≠none):RX w' (fun i=>T' i≠none) q :=
 (h.wide (Av':=fun i=>T i≠none) (fun _ _ h=>h)).keep m.keep (fun i _ hs=>hS i hs) |> fun h1=>by
   have h2:RX w (fun i=>T' i≠none) q:=h.wide (fun i hi ht=>m.av i hi ht)
   exact h2.keep m.keep (fun i hi hs=>by rw [m.old i hi];exact hS i hs)
theorem ATok.step {a:AT} (h:ATok w (fun i=>T i≠none) a) (m:Mv w T w' T' S) (hS:∀ i,S i→T i≠none):ATok w' (fun i=>T' i≠none) a :=
 (h.wide (Av':=fun i=>T' i≠none) (fun i hi ht=>m.av i hi ht)).keep m.keep (fun i hi hs=>by rw [m.old i hi];exact hS i hs)
theorem ATs.step {B:Option Addr} {l:List AT} (h:ATs w (fun i=>T i≠none) B l) (m:Mv w T w' T' S) (hS:∀ i,S i→T i≠none):ATs w' (fun i=>T' i≠none) B l :=
 (h.wide (Av':=fun i=>T' i≠none) (fun i hi ht=>m.av i hi ht)).keep m.keep (fun i hi hs=>by rw [m.old i hi];exact hS i hs)
end
structure JJ (w:World) (T:Tags) (p:PS) (q:QS) (c:CF) (b:Nat):Prop where
 px:PX w T p
 rx:RX w (fun i=>T i≠none) q
 eq:p.pt=q.pt
 ok:XOk q.pt
 own:XOwn q.pt
 cfg:q.c=c
 dis:Sl w (fun i=>T i≠none) 1 c.D c.dis.length (icells c.dis)
 dl:c.dis.length≤4096
 n:q.R.length≤b∧q.out.length≤100 * b∧q.ev.length≤100 * b
section
variable {w w':World} {T T':Tags} {S:Nat→Prop} {p p':PS} {q q':QS} {c:CF} {b b':Nat}
theorem JJ.mvR (h:JJ w T p q c b) (m:Mv w T w' T' S) (hS:∀ i,S i→T i=some .rsv):JJ w' T' p q c b:=by
 have hN:∀ i,S i→T i≠none:=fun i hi=>by rw [hS i hi];exact fun h=>by cases h
 exact ⟨h.px.mvR m hS,h.rx.step m hN,h.eq,h.ok,h.own,h.cfg,m.slice hN h.dis,h.dl,h.n⟩
theorem JJ.rsv (h:JJ w T p q c b) (hk:Same w w'):JJ w' (T.rsv w.heap.size w'.heap.size) p q c b:=h.mvR (Mv.rsv h.px.lt hk) (fun _ f=>f.elim)
theorem JJ.same (h:JJ w T p q c b) (hk:Same w w'):JJ w' T p q c b:=h.mvR (Mv.same hk h.px.lt) (fun _ f=>f.elim)
theorem JJ.lens (h:JJ w T p q c b):p.R.length=q.R.length∧p.out.length=q.out.length∧p.ev=q.ev:=by
 have h1:=congrArg (fun X=>X.L.length) h.eq
 have h2:=congrArg (fun X=>X.out.length) h.eq
 have h3:=congrArg XS.ev h.eq
 simp only [PS.pt,QS.pt,List.length_map] at h1 h2
 exact ⟨h1,h2,h3⟩
end
def actX (X:XS) (a:AT) (body:List UInt8):XS :=
 if a.k=0 then X.dial a.node (a.src.map SA.pt) a.now else if a.k=1 then X.ansS a.call a.n a.now else if a.k=2 then X.hangS a.call a.now else
 if a.k=3 then X.recv a.fr a.tt body a.now else if a.k=4 then X.tick a.now else if a.k=5 then { X with out:=[],ev:=[] } else X
def FrP (w:World) (m:Nt) (tt:Int) (e:Ending) (w':World):Prop:=∃ (C:Option Addr) (cc:Nat),e=.returned (.agg #[.int .i64 m.c,.int .i64 tt,.slice C (encM m).length cc])∧Sl w' (fun i=>i<w.heap.size) 1 C (encM m).length (bcells (encM m))∧Same w w'
set_option maxHeartbeats 8000000 in
set_option maxRecDepth 100000 in
theorem fromQ (w:World) (Av:Nat→Prop) (m:Nt) (A:Option Addr) (cap:Nat) (hb:Sl w Av 1 A m.body.length (bcells m.body)) (tt:Int):Calls Tryz.prog 18 #[.agg #[.int .i64 m.k,.int .i64 m.call,.int .i64 m.d,.int .i64 m.c,.int .i64 m.e,.int .i64 m.n,.slice A m.body.length cap],.int .i64 tt] w (FrP w m tt):=by
 have hm:=(Blk.made w 46 #[.int .i64 m.k,.int .i64 m.call,.int .i64 m.d,.int .i64 m.c,.int .i64 m.e,.int .i64 m.n,.slice A m.body.length cap]).alloc (.cells #[.int .i64 0,.int .i64 0,.slice none 0 0] 56)
 have hz:=Blk.made (w.alloc (.cells #[.int .i64 m.k,.int .i64 m.call,.int .i64 m.d,.int .i64 m.c,.int .i64 m.e,.int .i64 m.n,.slice A m.body.length cap] 46)) 56 #[.int .i64 0,.int .i64 0,.slice none 0 0]
 have hw:Same w ((w.alloc (.cells #[.int .i64 m.k,.int .i64 m.call,.int .i64 m.d,.int .i64 m.c,.int .i64 m.e,.int .i64 m.n,.slice A m.body.length cap] 46)).alloc (.cells #[.int .i64 0,.int .i64 0,.slice none 0 0] 56)):=((Keep.refl _ _).alloc _).alloc _
 rw [World.size_alloc] at hz
 generalize hw1:((w.alloc (.cells #[.int .i64 m.k,.int .i64 m.call,.int .i64 m.d,.int .i64 m.c,.int .i64 m.e,.int .i64 m.n,.slice A m.body.length cap] 46)).alloc (.cells #[.int .i64 0,.int .i64 0,.slice none 0 0] 56))=w1 at *
 have hsz:w1.heap.size=w.heap.size+2:=by rw [←hw1];simp only [World.size_alloc]
 have HWR:=hid (fun (W:World) (hk:Same w W)=>show Calls Tryz.prog 44 #[.agg #[.int .i64 m.k,.int .i64 m.call,.int .i64 m.d,.int .i64 m.c,.int .i64 m.e,.int .i64 m.n,.slice A m.body.length cap]] W (NB W (encM m)) from rwrite_any W Av m A cap (hb.same hk))
 unfold NB at HWR
 have HM:=hid hm
 have HZ:=hid hz
 have HW:=hid hw
 have HSZ:=hid hsz
 have z3:w1.cell? ⟨w.heap.size,3,none⟩=some (.int .i64 m.c):=hm.at_ 3
 clear hm hz hw hsz hb
 go_enter Tryz.func18,Tryz.ntmps18
 go_upto_region 1 with fail
 try rw [hw1]
 clear hw1
 refine wp_region_held_drew (S:=fun W=>Blk W w.heap.size 46 #[.int .i64 m.k,.int .i64 m.call,.int .i64 m.d,.int .i64 m.c,.int .i64 m.e,.int .i64 m.n,.slice A m.body.length cap]∧W.cell? ⟨w.heap.size,3,none⟩=some (.int .i64 m.c)) (by kernel_rfl) ⟨HM.out,z3⟩ (fun hHeld=>?_)
 refine tk 0 ?_
 refine tk 1 ?_
 refine tk 2 ?_
 refine tL 3 (.tmp 2) (w.heap.size) 46 (#[.int .i64 m.k,.int .i64 m.call,.int .i64 m.d,.int .i64 m.c,.int .i64 m.e,.int .i64 m.n,.slice A m.body.length cap]) (fun W hS=>hS.1) Tryz.underlying46 ?_
 have hkd:Same w1 w1.drew:=(Keep.refl _ _).drew
 have HMd:=hid (HM.out.keep hkd (fun f=>f))
 have HZd:=hid (HZ.out.keep hkd (fun f=>f))
 have HWd:=hid (HW.out.then hkd)
 have HSD:=hid (show w1.drew.heap.size=w.heap.size+2 from HSZ.out)
 clear hHeld z3 hkd HM HZ HW HSZ
 generalize w1.drew=wd at *
 refine rd1 4 (fun K hK=>?_)
 go_simp
 (with_reducible refine (HWR.out _ HWd.out).mono ?_)
 rintro e9 w2 ⟨C,cc,rfl,hs,hk⟩
 have HS2:=hid hs
 have HK2:=hid hk
 have HM2:=hid (HMd.out.keep hk (fun f=>f))
 have HZ2:=hid (HZd.out.keep hk (fun f=>f))
 clear hs hk
 refine hK.out _ _ ⟨HM2.out,HM2.out.at_ 3⟩ (fun hHeld1=>?_)
 clear hK K
 refine pput ?_
 refine tk 5 ?_
 refine rd1 6 (fun K hK=>?_)
 refine store_step rfl _ (.tmp 4) (.tmp 10) rfl (w.heap.size+1) #[.int .i64 m.c,.int .i64 tt,.slice C (encM m).length cc] rfl rfl _ _ HZ2.out (by kernel_rfl) rfl (one_toArray (pk_one (⟨m.c,tt,C,cc,encM m⟩:PkA))) ?_
 have hks:Keep (fun i=>i=w.heap.size+1) w2 (w2.setRow (w.heap.size+1) #[.int .i64 m.c,.int .i64 tt,.slice C (encM m).length cc]):=Keep.row _ _ _
 have HZ3:=hid (HZ2.out.row #[.int .i64 m.c,.int .i64 tt,.slice C (encM m).length cc])
 have HF:=hid (show FrP w m tt (.returned (.agg #[.int .i64 m.c,.int .i64 tt,.slice C (encM m).length cc])) (w2.setRow (w.heap.size+1) #[.int .i64 m.c,.int .i64 tt,.slice C (encM m).length cc]) from
  ⟨C,cc,rfl,(HS2.out.keep hks (fun j _ e=>by have e2:j=w.heap.size+1:=e;have:=HSD.out;show j<wd.heap.size;omega)).wide (fun j _ hj=>by have:=HSD.out;show j<wd.heap.size;have h2:j<w.heap.size:=hj;omega),(HWd.out.then HK2.out).trans hks (fun j hj e=>by have e2:j=w.heap.size+1:=e;omega)⟩)
 have hm3:=HM2.out.keep hks (fun e=>by have e2:w.heap.size=w.heap.size+1:=e;omega)
 refine hK.out _ _ ⟨hm3,hm3.at_ 3⟩ (fun hHeld2=>?_)
 clear hK K
 refine pput ?_
 clear hks hm3
 refine wpAnyH_done (by kernel_rfl) ?_ _
 go_wp2_with fail
 refine bodyPost_ret (results_cell_row rfl _ _ _ _ _ _ _ rfl HZ3.out Tryz.underlying56 rfl (by kernel_rfl)) rfl ?_
 exact HF.out
def aw1 (g:Nat):XS:=(newX (twoC g)).dial 0 [] 5
def aw2 (g:Nat):XS:=(aw1 g).recv 1 2 (encM ⟨8,0,0,1,2,0,[]⟩) 6
def aw3 (g:Nat):XS:=(aw2 g).recv 0 2 (encM ⟨6,1,0,0,1,0,[]⟩) 7
theorem aw1_e (g:Nat):(newX (twoC g)).dialI 0 5=1∧(newX (twoC g)).dialE 0 5=0:=by constructor <;> kernel_rfl
theorem aw1_l (g:Nat):(aw1 g).L.map (fun l=>(l.s.cen,l.s.ep))=[(0,1)]:=by kernel_rfl
theorem aw2_l (g:Nat):(aw2 g).L.map (fun l=>(l.s.cen,l.s.ep))=[(1,2)]:=by kernel_rfl
theorem aw3_l (g:Nat):(aw3 g).L.map (fun l=>l.s.st)=[1]∧(aw3 g).out.length=2∧(aw3 g).ev.length=3:=by
 refine ⟨?_,?_,?_⟩ <;> kernel_rfl
theorem aw1_n (g:Nat):(aw1 g).L.length=1∧(aw1 g).out.length=1∧(aw1 g).ev.length=2:=by refine ⟨?_,?_,?_⟩ <;> kernel_rfl
theorem aw2_n (g:Nat):(aw2 g).L.length=1∧(aw2 g).out.length=2∧(aw2 g).ev.length=3:=by refine ⟨?_,?_,?_⟩ <;> kernel_rfl
theorem aw3_n (g:Nat):(aw3 g).L.length=1:=by kernel_rfl
end Go.Proofs.YtbjddfiledoaoaaGreat

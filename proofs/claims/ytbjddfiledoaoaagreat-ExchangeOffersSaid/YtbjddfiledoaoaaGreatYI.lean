import Derived.Test.YtbjddfiledoaoaaGreatYE
import Derived.Test.YtbjddfiledoaoaaGreatWireV
namespace Go.Proofs.YtbjddfiledoaoaaGreat
open Go.RowKit
theorem wpList_field {P:Program} {ops:Array Oper} {rest:List Oper} {o:Oper} {a:Act} {w:World} {Q:Exit→Act→World→Prop} (hgd:o.guard=none) (ty:TypeId) (x:Operand) (f:Nat) (ho:o.op=.field ty x f)
 (cs:Array Value) (hx:a.eval x=.agg cs) (v:Value) (hr:(Instr.field ty (.agg cs) f).run P w=.ok v w)
 (h:wpList P ops Q rest (a.put o.dst v) w):wpList P ops Q (o :: rest) a w :=
 wpList_plain hgd fun _ hK=>by
  unfold Oper.wp execOp
  simp only [ho,hx,hr,Sem.run_bind,Sem.run_pure,Result.andThen_ok]
  exact hK _ _ h
theorem field_thing (w:World) (k n:Int) (b:Bool) (s:ByteArray) (v:Value):(Instr.field 171 (.agg #[.int .i64 k,.int .i64 n,.bool b,.string s,v]) 3).run Tryz.prog w=.ok (.string s) w:=by kernel_rfl
set_option maxHeartbeats 8000000 in
set_option maxRecDepth 100000 in
theorem tookQ (w:World) (Av:Nat→Prop) (hAv:∀ i,Av i→i<w.heap.size) (q:QS) (h:RX w Av q) (hn:q.R.length≤1000) (now:Int) (k:Nat) (x:QA) (hx:q.R[k]? = some x) (m:Nt) (A:Option Addr) (cap:Nat) (hm:vM m=true) (hb:Sl w Av 1 A m.body.length (bcells m.body)):Calls Tryz.prog 113 #[.agg q.cells.toArray,.int .i64 k,.agg (m.cells A cap).toArray,.int .i64 now] w (QPost w Av q.c (q.pt.ack k x.pt m now)):=by
 have hm0:=((Blk.made w 35 q.cells.toArray).alloc (.cells (m.cells A cap).toArray 46)).alloc (.cells zero20.toArray 35)
 have he:=(Blk.made (w.alloc (.cells q.cells.toArray 35)) 46 (m.cells A cap).toArray).alloc (.cells zero20.toArray 35)
 have hz:=Blk.made ((w.alloc (.cells q.cells.toArray 35)).alloc (.cells (m.cells A cap).toArray 46)) 35 zero20.toArray
 have hw:Same w (((w.alloc (.cells q.cells.toArray 35)).alloc (.cells (m.cells A cap).toArray 46)).alloc (.cells zero20.toArray 35)):=(((Keep.refl _ _).alloc _).alloc _).alloc _
 rw [World.size_alloc] at he
 rw [World.size_alloc,World.size_alloc] at hz
 generalize hw1:(((w.alloc (.cells q.cells.toArray 35)).alloc (.cells (m.cells A cap).toArray 46)).alloc (.cells zero20.toArray 35))=w1 at *
 have hsz:w1.heap.size=w.heap.size+3:=by rw [←hw1];simp only [World.size_alloc]
 have hi:=(List.getElem?_eq_some_iff.1 hx).1
 have hml:=(vM_iff.1 hm).2.2.2.2.2.2
 have HML:=hid hml
 have HM:=hid hm0
 have HN:=hid he
 have HZ:=hid hz
 have HW:=hid hw
 have HR:=hid h
 have HAV:=hid hAv
 have HSZ:=hid hsz
 have HXX:=hid hx
 have HBS:=hid (hb.same hw)
 have HO0:=hid (Own.lit0 w1 5 1)
 have z6:w1.cell? ⟨w.heap.size+1,6,none⟩=some (.slice A m.body.length cap):=he.at_ 6
 obtain ⟨nm,hnm⟩:∃ nm,nm=(ackR m.body).1:=⟨_,rfl⟩
 obtain ⟨ve,hve⟩:∃ ve,ve=(ackR m.body).2.1:=⟨_,rfl⟩
 obtain ⟨er,her⟩:∃ er,er=(ackR m.body).2.2:=⟨_,rfl⟩
 have HAK:=hid (show q.pt.ack k x.pt m now=if er=0∧acceptE x.s m.e (strOf nm) ve=0 then q.pt.put k { x.pt with s:=acceptS x.s m.e (strOf nm) ve,last:=if (acceptS x.s m.e (strOf nm) ve).st≠3∧m.n=((acceptS x.s m.e (strOf nm) ve).ans.length:Int) then max x.last now else x.last } else q.pt from by rw [hnm,hve,her];rfl)
 have HVE:=hid (show acceptE x.s m.e (strOf nm) ve=0→1≤ve∧ve≤1048576 from fun e=>(accept_ok e).2.2.2)
 have HAC:=hid (fun W (hk:Same w W)=>ranswer_any W (AvN w Av W) x.A x.c x.s ((h.lin x (List.mem_of_getElem? hx)).later hk AvN.or).an m.e (strOf nm) ve)
 unfold RefPost at HAC
 have HRL:=hid (fun (W W2:World) (hk:Same w W)=>show RX W (AvN w Av W2) q from h.later hk AvN.or)
 have HSAME:=hid (fun (W:World) (hk:Same w W)=>show QPost w Av q.c q.pt (.returned (.agg q.cells.toArray)) (W.setRow (w.heap.size+1+1) q.cells.toArray) from by
  have hs:Same w (W.setRow (w.heap.size+1+1) q.cells.toArray):=hk.trans (Keep.row _ _ _) (fun j hj e=>by have e2:j=w.heap.size+1+1:=e;omega)
  exact ⟨q,rfl,h.same hs,rfl,rfl,hs⟩)
 obtain ⟨ae,hae⟩:∃ ae,ae=acceptE x.s m.e (strOf nm) ve:=⟨_,rfl⟩
 obtain ⟨s2,hs2⟩:∃ s2,s2=acceptS x.s m.e (strOf nm) ve:=⟨_,rfl⟩
 rw [←hae,←hs2] at HAK HAC
 rw [←hae] at HVE
 have HR1:=hid (show (rdBytes ⟨m.body,0⟩).1=nm from hnm.symm)
 have HR2:=hid (show (rdInt (rdBytes ⟨m.body,0⟩).2).1=ve from hve.symm)
 have HR3:=hid (show endE (rdInt (rdBytes ⟨m.body,0⟩).2).2=er from her.symm)
 obtain ⟨rb,off,hLA,hrb,_,hrow⟩:=(h.L.same hw).at_ (by omega)
 have hrg:=range_row hrow hx
 have HRX:=hid hrg
 have z15:w1.cell? ⟨w.heap.size,15,none⟩=some (.slice q.LA q.R.length q.lc):=hm0.at_ 15
 rw [hLA] at z15
 have HZ15:=hid z15
 have hkk:(k:Int)<(q.R.length:Int):=by omega
 have hk0:(0:Int)≤(k:Int):=Int.natCast_nonneg _
 have HKL:=hid hi
 have h03:w.heap.size<w1.heap.size:=by omega
 have h13:w.heap.size+1<w1.heap.size:=by omega
 clear hm0 he hz hw h hAv hx hb hm hsz hml hi hnm hve her hae hs2 hLA hrow hrg hrb z15
 go_enter Tryz.func113,Tryz.ntmps113
 go_upto_region 1 with fail
 try simp only [zero20] at hw1
 try rw [hw1]
 clear hw1
 go_upto_region 2 with (first
  | (at_builtin
     refine EBy.law2 (.tmp 15) (.tmp 17) (.slice (some ⟨w1.heap.size,0,none⟩) 0 0) A m.body.length cap rfl rfl rfl rfl w1.heap.size 0 [] (bcells m.body) m.body.length (bcells m.body) (Nat.zero_add _) rfl HO0.out (by rw [bcells_len];omega) ((HBS.out.same ((Keep.refl (fun _=>False) w1).alloc (.cells #[] 5))).src (Keep.refl (fun _=>False) _)) (bcells_one _) (by have:=HML.out;omega) (by unfold maxLen;have:=HML.out;omega) (by rw [World.size_alloc];omega) ?_
     intro A2 c2 w2 ho hg hw
     have HO2:=hid ho
     have HK2:=hid (((Keep.refl (fun _=>False) w1).alloc (.cells #[] 5)).app HO0.out hg (fun g h1 h2=>by omega))
     clear ho hg hw))
 have hs2:Sl w2 (fun i=>i<w1.heap.size∨i=w2.heap.size) 1 A2 m.body.length (bcells m.body):=HO2.out.slN.wide (fun i hi h=>h.elim id (fun e=>by omega))
 have hk3:Same w2 (w2.alloc (.cells #[.slice A2 m.body.length c2,.int .i64 0] 213)):=(Keep.refl _ _).alloc _
 have hrq:Rq (w2.alloc (.cells #[.slice A2 m.body.length c2,.int .i64 0] 213)) w2.heap.size (fun i=>i<w1.heap.size) A2 m.body.length c2 ⟨m.body,0⟩:=⟨Blk.made w2 213 _,fun _=>⟨hs2.same hk3,HO2.out.cap⟩,fun hlt=>by have:=HK2.out.size;omega⟩
 have HK3:=hid (HK2.out.then hk3)
 have HRQ:=hid hrq
 have HRB:=hid HK2.out.size
 clear hs2 hk3 hrq z6 HO2
 generalize (w2.alloc (.cells #[.slice A2 m.body.length c2,.int .i64 0] 213))=w3 at *
 generalize w2.heap.size=rb3 at *
 have HG:=hid (get3_any w3 rb3 _ A2 m.body.length c2 ⟨m.body,0⟩ HRQ.out (by have:=HML.out;show m.body.length≤_;omega))
 unfold TqPost at HG
 go_upto_region 3 with (first
  | (refine wpList_field rfl _ (.tmp 22) 3 rfl _ rfl _ (field_thing _ _ _ _ _ _) ?_)
  | (go_at_call 131;(with_reducible refine HG.out.mono ?_);rintro e1 w4 ⟨A4,n4,c4,tm,rfl,htm,_,hR,hk4⟩;have HRQ4:=hid hR;have HK4:=hid (HK3.out.trans hk4 (fun j hj e=>by have e2:j=rb3:=e;have:=HRB.out;omega));obtain ⟨tk,tn,tb,ts,tA,tm9,tc,tl⟩:=tm;simp only [Tm.cells];have HTM:=hid htm;clear hR hk4 htm))
 have HTS:=hid (show ts=strOf nm from by
  have h1:=congrArg Tg.d HTM.out
  have h2:ts.data.toList=nm:=h1.trans HR1.out
  rw [←h2];exact (strOf_data ts).symm)
 rw [HTS.out]
 have HI:=hid (qInt_any w4 rb3 _ A4 n4 c4 _ HRQ4.out (Nat.le_trans (rdBytes_len _) (by have:=HML.out;show m.body.length≤1000000000;omega)))
 rw [show (rdInt (getT 3 ⟨m.body,0⟩).2).1=ve from HR2.out] at HI
 unfold RqPost at HI
 go_upto_region 4 with (go_at_call 132;(with_reducible refine HI.out.mono ?_);rintro e1 w5 ⟨A5,n5,c5,rfl,hR,hk5⟩;have HRQ5:=hid hR;have HK5:=hid (HK4.out.trans hk5 (fun j hj e=>by have e2:j=rb3:=e;have:=HRB.out;omega));clear hR hk5)
 have HEN:=hid (show Calls Tryz.prog 133 #[.pointer (some ⟨rb3,0,none⟩)] w5 (fun e w'=>e=.returned (.int .i64 er)∧w5=w') from by
  have:=end_any w5 rb3 _ A5 n5 c5 _ HRQ5.out (Nat.le_trans (rdInt_len _) (Nat.le_trans (rdBytes_len _) (by have:=HML.out;show m.body.length≤1000000000;omega)))
  rw [show endE (rdInt (getT 3 ⟨m.body,0⟩).2).2=er from HR3.out] at this
  exact this)
 have HM5:=hid (HM.out.keep HK5.out (fun f=>f))
 have HN5:=hid (HN.out.keep HK5.out (fun f=>f))
 have HZ5:=hid (HZ.out.keep HK5.out (fun f=>f))
 have HW5:=hid (HW.out.then HK5.out)
 clear HRQ HRQ4 HRQ5 HG HI HTM HTS HK2 HK3 HK4 HM HZ HO0 HBS HR1 HR2 HR3
 by_cases e0:er=0
 ·have d0:(er != 0)=false:=by simp [e0]
  have E0:=hid e0
  clear e0
  by_cases v1:ve<1
  ·have d1:decide (ve<1)=true:=decide_eq_true v1
   have HB1:=hid (show ¬(er=0∧ae=0) from fun hh=>by have:=(HVE.out hh.2).1;omega)
   clear v1
   go_upto_region 5 with (go_at_call 133;(with_reducible refine HEN.out.mono ?_);rintro e1 w6 ⟨rfl,rfl⟩)
   go_wp2_with (first
    | (refine wpList_load_row rfl _ (.tmp 4) rfl w.heap.size rfl _ q.cells.toArray (0,0) _ HM5.out Tryz.underlying35 rfl (by kernel_rfl) ?_)
    | (refine wpList_store_row rfl _ (.tmp 8) (.tmp 37) rfl (w.heap.size+1+1) q.cells.toArray rfl rfl _ _ HZ5.out (by kernel_rfl) rfl (one_toArray (q_one q)) ?_))
   refine bodyPost_ret (results_cell_row rfl _ _ _ _ _ _ _ rfl (HZ5.out.row _) Tryz.underlying35 rfl (by kernel_rfl)) rfl ?_
   rw [HAK.out,if_neg HB1.out]
   exact HSAME.out _ HW5.out
  ·have d1:decide (ve<1)=false:=decide_eq_false v1
   by_cases v2:1048576<ve
   ·have d2:decide (1048576<ve)=true:=decide_eq_true v2
    have HB1:=hid (show ¬(er=0∧ae=0) from fun hh=>by have:=(HVE.out hh.2).2;omega)
    clear v1 v2
    go_upto_region 5 with (go_at_call 133;(with_reducible refine HEN.out.mono ?_);rintro e1 w6 ⟨rfl,rfl⟩)
    go_wp2_with (first
     | (refine wpList_load_row rfl _ (.tmp 4) rfl w.heap.size rfl _ q.cells.toArray (0,0) _ HM5.out Tryz.underlying35 rfl (by kernel_rfl) ?_)
     | (refine wpList_store_row rfl _ (.tmp 8) (.tmp 37) rfl (w.heap.size+1+1) q.cells.toArray rfl rfl _ _ HZ5.out (by kernel_rfl) rfl (one_toArray (q_one q)) ?_))
    refine bodyPost_ret (results_cell_row rfl _ _ _ _ _ _ _ rfl (HZ5.out.row _) Tryz.underlying35 rfl (by kernel_rfl)) rfl ?_
    rw [HAK.out,if_neg HB1.out]
    exact HSAME.out _ HW5.out
   ·have d2:decide (1048576<ve)=false:=decide_eq_false v2
    clear v1 v2
    have z15:w5.cell? ⟨w.heap.size,15,none⟩=some (.slice (some ⟨rb,off,none⟩) q.R.length q.lc):=(HK5.out.cell (p:=⟨w.heap.size,15,none⟩) h03 (fun f=>f)).trans HZ15.out
    have HRG5:=hid (range_same HRX.out HK5.out)
    have HZL:=hid (Blk.made w5 53 #[.int .i64 0,.int .i64 0,.int .i64 0,.int .i64 0,.int .i64 0,.string ⟨#[]⟩,.int .i64 0,.slice none 0 0,.int .i64 0,.slice none 0 0,.int .i64 0])
    go_upto_region 6 with (go_at_call 133;(with_reducible refine HEN.out.mono ?_);rintro e1 w6 ⟨rfl,rfl⟩)
    go_upto_region 7 with (first
     | (refine wpList_load_mid rfl _ (.tmp 41) rfl rb (off+k * 11) rfl x.cells _ HRG5.out Tryz.underlying53 rfl (by kernel_rfl) ?_)
     | (refine wpList_store_row rfl _ (.tmp 12) (.tmp 42) rfl w5.heap.size x.cells.toArray rfl rfl _ _ HZL.out (by kernel_rfl) rfl (one_toArray (qa_one x)) ?_))
    have hL7:Blk ((w5.alloc (.cells #[.int .i64 0,.int .i64 0,.int .i64 0,.int .i64 0,.int .i64 0,.string ⟨#[]⟩,.int .i64 0,.slice none 0 0,.int .i64 0,.slice none 0 0,.int .i64 0] 53)).setRow w5.heap.size x.cells.toArray) w5.heap.size 53 x.cells.toArray:=HZL.out.row _
    have hk7:Same w5 ((w5.alloc (.cells #[.int .i64 0,.int .i64 0,.int .i64 0,.int .i64 0,.int .i64 0,.string ⟨#[]⟩,.int .i64 0,.slice none 0 0,.int .i64 0,.slice none 0 0,.int .i64 0] 53)).setRow w5.heap.size x.cells.toArray):=((Keep.refl (fun _=>False) w5).alloc _).trans (Keep.row _ _ _) (fun j hj e=>by have e2:j=w5.heap.size:=e;omega)
    have HL5:=hid (show w1.heap.size≤w5.heap.size from HK5.out.size)
    obtain ⟨gl,hgl⟩:∃ g,g=w5.heap.size:=⟨_,rfl⟩
    rw [←hgl] at hL7 hk7 ⊢
    have HGL:=hid (show w1.heap.size≤gl from by rw [hgl];exact HL5.out)
    have HM7:=hid (HM5.out.keep hk7 (fun f=>f))
    have HN7:=hid (HN5.out.keep hk7 (fun f=>f))
    have HZ7:=hid (HZ5.out.keep hk7 (fun f=>f))
    have HW7:=hid (HW5.out.then hk7)
    have HW7S:=hid (show w.heap.size+3≤((w5.alloc (.cells #[.int .i64 0,.int .i64 0,.int .i64 0,.int .i64 0,.int .i64 0,.string ⟨#[]⟩,.int .i64 0,.slice none 0 0,.int .i64 0,.slice none 0 0,.int .i64 0] 53)).setRow gl x.cells.toArray).heap.size from by have h1:=HL5.out;have h2:=hk7.size;have h3:=HSZ.out;omega)
    have HL7:=hid hL7
    clear hL7 hk7 hgl z15
    generalize ((w5.alloc (.cells #[.int .i64 0,.int .i64 0,.int .i64 0,.int .i64 0,.int .i64 0,.string ⟨#[]⟩,.int .i64 0,.slice none 0 0,.int .i64 0,.slice none 0 0,.int .i64 0] 53)).setRow gl x.cells.toArray)=w7 at *
    have z4:w7.cell? ⟨w.heap.size+1,4,none⟩=some (.int .i64 m.e):=HN7.out.at_ 4
    have HC7:=hid (HAC.out w7 HW7.out)
    have HB8:=hid (fun W=>Blk.made W 50 #[.int .i64 0,.int .i64 0,.int .i64 0,.int .i64 0,.int .i64 0,.string ⟨#[]⟩,.int .i64 0,.slice none 0 0])
    go_upto_region 8 with (first
     | (refine wpList_load_mid rfl _ (.tmp 44) rfl gl 0 rfl (x.s.cells x.A x.c) _ HL7.out.lineRange Tryz.underlying50 rfl (by kernel_rfl) ?_)
     | (go_at_call 134;(with_reducible refine HC7.out.mono ?_);rintro e9 w8 ⟨A8,c8,rfl,hs8,hk8⟩;have HS8:=hid hs8;have HK8:=hid hk8;clear hs8 hk8)
     | (refine wpList_store_row rfl _ (.tmp 13) (.tmp 51) rfl w8.heap.size (s2.cells A8 c8).toArray rfl rfl _ _ (HB8.out w8) (by kernel_rfl) rfl (one_toArray (cl_one _ _ _)) ?_))
    have hS9:Blk ((w8.alloc (.cells #[.int .i64 0,.int .i64 0,.int .i64 0,.int .i64 0,.int .i64 0,.string ⟨#[]⟩,.int .i64 0,.slice none 0 0] 50)).setRow w8.heap.size (s2.cells A8 c8).toArray) w8.heap.size 50 (s2.cells A8 c8).toArray:=(HB8.out w8).row _
    have hk9:Same w8 ((w8.alloc (.cells #[.int .i64 0,.int .i64 0,.int .i64 0,.int .i64 0,.int .i64 0,.string ⟨#[]⟩,.int .i64 0,.slice none 0 0] 50)).setRow w8.heap.size (s2.cells A8 c8).toArray):=((Keep.refl (fun _=>False) w8).alloc _).trans (Keep.row _ _ _) (fun j hj e=>by have e2:j=w8.heap.size:=e;omega)
    obtain ⟨gn,hgn⟩:∃ g,g=w8.heap.size:=⟨_,rfl⟩
    have h87:=HK8.out.size
    have hL7lt:=HL7.out.lt
    rw [←hgn] at hS9 hk9 ⊢
    have HGN:=hid (show gl<gn from by omega)
    have hk79:=HK8.out.then hk9
    have HZ79:=hid hk79.size
    have HM9:=hid (HM7.out.keep hk79 (fun f=>f))
    have HN9:=hid (HN7.out.keep hk79 (fun f=>f))
    have HZ9:=hid (HZ7.out.keep hk79 (fun f=>f))
    have HW9:=hid (HW7.out.then hk79)
    have HL9:=hid (HL7.out.keep hk79 (fun f=>f))
    have HA9:=hid (HS8.out.same hk9)
    have HS9:=hid hS9
    clear hS9 hk9 hgn hk79 h87 hL7lt z4
    generalize ((w8.alloc (.cells #[.int .i64 0,.int .i64 0,.int .i64 0,.int .i64 0,.int .i64 0,.string ⟨#[]⟩,.int .i64 0,.slice none 0 0] 50)).setRow gn (s2.cells A8 c8).toArray)=w9 at *
    by_cases a0:ae=0
    ·have da:(ae != 0)=false:=by simp [a0]
     have HGD:=hid (show er=0∧ae=0 from ⟨E0.out,a0⟩)
     clear a0
     go_upto_region 10 with fail
     have HTH:Hid (w9.there gl 0 (s2.cells A8 c8).toArray.size):=hid HL9.out.lineThere
     go_upto_region 11 with (first
      | (refine wpList_load_row rfl _ (.tmp 13) rfl gn rfl _ (s2.cells A8 c8).toArray (0,0) _ HS9.out Tryz.underlying50 rfl (by kernel_rfl) ?_)
      | (refine wpList_store_mid rfl _ (.tmp 57) (.tmp 56) rfl gl 0 (s2.cells A8 c8).toArray rfl rfl HTH.out (by kernel_rfl) (one_toArray (cl_one _ _ _)) ?_))
     have hL10:Blk (w9.setCells gl 0 (s2.cells A8 c8)) gl 53 ({ x with s:=s2,A:=A8,c:=c8 }:QA).cells.toArray:=HL9.out.line s2 A8 c8
     have hkc:Keep (fun j=>j=gl) w9 (w9.setCells gl 0 (s2.cells A8 c8)):=Keep.cells gl _ _ _
     have hgl:=HGL.out
     have hgn:=HGN.out
     have HM10:=hid (HM9.out.keep hkc (fun e=>by have e2:w.heap.size=gl:=e;omega))
     have HN10:=hid (HN9.out.keep hkc (fun e=>by have e2:w.heap.size+1=gl:=e;omega))
     have HZ10:=hid (HZ9.out.keep hkc (fun e=>by have e2:w.heap.size+1+1=gl:=e;have:=HSZ.out;omega))
     have HS10:=hid (HS9.out.keep hkc (fun e=>by have e2:gn=gl:=e;omega))
     have HW10:=hid (HW9.out.trans hkc (fun j hj e=>by have e2:j=gl:=e;omega))
     have HAN:=hid (show AvN w Av w7 gl from .inr ⟨by omega,HL7.out.lt⟩)
     have HA10:=hid (HA9.out.keep hkc (fun j _ e=>by have e2:j=gl:=e;rw [e2];exact HAN.out))
     obtain ⟨x2,hx2⟩:∃ x2:QA,x2={ x with s:=s2,A:=A8,c:=c8 }:=⟨_,rfl⟩
     rw [←hx2] at hL10
     have HX2:=hid hx2
     have HL10:=hid hL10
     have HKC:=hid hkc
     clear hL10 hkc hx2 HTH
     generalize (w9.setCells gl 0 (s2.cells A8 c8))=w10 at *
     have y1:w10.cell? ⟨gn,1,none⟩=some (.int .i64 s2.st):=HS10.out.at_ 1
     have y7:w10.cell? ⟨gn,7,none⟩=some (.slice A8 s2.ans.length c8):=HS10.out.at_ 7
     have y5:w10.cell? ⟨w.heap.size+1,5,none⟩=some (.int .i64 m.n):=HN10.out.at_ 5
     have HZ90:=hid (Nat.le_trans HZ79.out HKC.out.size)
     have HAV7:=hid (AvN.lt (W:=w7) HAV.out HW7.out.size)
     have HQ10:=hid (show QAt w10 (AvN w Av w7) x2 from by
      rw [HX2.out]
      exact ⟨HA10.out,((HRL.out w10 w7 HW10.out).lin x (List.mem_of_getElem? HXX.out)).src⟩)
     clear HC7 HAC HN9 HM9 HZ9 HL9 HS9 HA9 HB8 HS8 HK8 HM5 HN5 HZ5 HM7 HN7 HZ7 HL7 HKC
     by_cases s3:s2.st=3
     ·have d3:(s2.st != 3)=false:=by simp [s3]
      have HPT:=hid (show q.pt.ack k x.pt m now=q.pt.put k x2.pt from by
       rw [HAK.out,if_pos HGD.out,HX2.out,if_neg (fun h=>h.1 s3)];rfl)
      clear s3
      go_upto_region 13 with fail
      have HSE:=hid (set_any w10 (AvN w Av w7) (fun j hj=>Nat.lt_of_lt_of_le (HAV7.out j hj) HZ90.out) q (HRL.out w10 w7 HW10.out) hn k HKL.out x2 HQ10.out)
      unfold QPost at HSE
      go_wp2_with (first
       | (refine wpList_load_row rfl _ (.tmp 4) rfl w.heap.size rfl _ q.cells.toArray (0,0) _ HM10.out Tryz.underlying35 rfl (by kernel_rfl) ?_)
       | (refine wpList_load_row rfl _ (.tmp 12) rfl gl rfl _ x2.cells.toArray (0,0) _ HL10.out Tryz.underlying53 rfl (by kernel_rfl) ?_)
       | (go_at_call 108;(with_reducible refine HSE.out.mono ?_);rintro e w12 ⟨q3,rfl,hr12,hp12,hc12,hk12⟩
          have HR12:=hid hr12
          have HP12:=hid hp12
          have HC12:=hid hc12
          have HK12:=hid hk12
          have HZ12:=hid (HZ10.out.keep hk12 (fun f=>f))
          clear hr12 hp12 hc12 hk12)
       | (refine wpList_store_row rfl _ (.tmp 8) (.tmp 77) rfl (w.heap.size+1+1) q3.cells.toArray rfl rfl _ _ HZ12.out (by kernel_rfl) rfl (one_toArray (q_one q3)) ?_))
      have hkr:Keep (fun j=>j=(w.heap.size+1+1)) w12 (w12.setRow (w.heap.size+1+1) q3.cells.toArray):=Keep.row _ _ _
      refine bodyPost_ret (results_cell_row rfl _ _ _ _ _ _ _ rfl (HZ12.out.row _) Tryz.underlying35 rfl (by kernel_rfl)) rfl ⟨q3,rfl,?_,by rw [HP12.out,HPT.out],HC12.out,(HW10.out.then HK12.out).trans hkr (fun j hj e=>by have e2:j=w.heap.size+1+1:=e;omega)⟩
      refine (HR12.out.keep hkr (fun j hj e=>.inr ?_)).wide (fun j _ hj=>.inl hj)
      have e2:j=w.heap.size+1+1:=e
      have h7:=HW7S.out
      omega
     ·have d3:(s2.st != 3)=true:=by simpa using s3
      by_cases n3:m.n=(s2.ans.length:Int)
      ·have dn:(m.n == (s2.ans.length:Int))=true:=by simp [n3]
       have y10:w10.cell? ⟨gl,10,none⟩=some (.int .i64 x.last):=by rw [HL10.out.at_ 10,HX2.out];rfl
       have f10:=HL10.out.free 10
       obtain ⟨mx,hmx⟩:∃ m,max x.last now=m:=⟨_,rfl⟩
       have HPT:=hid (show q.pt.ack k x.pt m now=q.pt.put k ({ x2 with last:=mx }:QA).pt from by
        rw [HAK.out,if_pos HGD.out,HX2.out,if_pos ⟨s3,n3⟩,←hmx];rfl)
       clear s3 n3
       go_upto_region 13 with fail
       clear hmx
       have hk11:Keep (fun j=>j=gl) w10 (w10.setCell ⟨gl,10,none⟩ (.int .i64 mx)):=(Keep.refl _ _).put 10 _
       have hgl:=HGL.out
       have HL11:=hid (show Blk (w10.setCell ⟨gl,10,none⟩ (.int .i64 mx)) gl 53 ({ x2 with last:=mx }:QA).cells.toArray from by
        have h1:=HL10.out.put 10 (.int .i64 mx)
        rw [show ({ x2 with last:=mx }:QA).cells.toArray=x2.cells.toArray.setIfInBounds 10 (.int .i64 mx) from by simp [QA.cells]]
        exact h1)
       have HM11:=hid (HM10.out.keep hk11 (fun e=>by have e2:w.heap.size=gl:=e;omega))
       have HZ11:=hid (HZ10.out.keep hk11 (fun e=>by have e2:w.heap.size+1+1=gl:=e;have:=HSZ.out;omega))
       have HW11:=hid (HW10.out.trans hk11 (fun j hj e=>by have e2:j=gl:=e;omega))
       have HQ11:=hid (show QAt (w10.setCell ⟨gl,10,none⟩ (.int .i64 mx)) (AvN w Av w7) { x2 with last:=mx } from ⟨HQ10.out.an.keep hk11 (fun j _ e=>by have e2:j=gl:=e;rw [e2];exact HAN.out),HQ10.out.src.keep hk11 (fun j _ e=>by have e2:j=gl:=e;rw [e2];exact HAN.out)⟩)
       have HZ91:=hid (Nat.le_trans HZ90.out hk11.size)
       clear hk11 y10 f10
       generalize (w10.setCell ⟨gl,10,none⟩ (.int .i64 mx))=w11 at *
       obtain ⟨x3,hx3⟩:∃ x3:QA,x3={ x2 with last:=mx }:=⟨_,rfl⟩
       rw [←hx3] at HL11 HQ11 HPT
       clear hx3
       have HSE:=hid (set_any w11 (AvN w Av w7) (fun j hj=>Nat.lt_of_lt_of_le (HAV7.out j hj) HZ91.out) q (HRL.out w11 w7 HW11.out) hn k HKL.out x3 HQ11.out)
       unfold QPost at HSE
       go_wp2_with (first
        | (refine wpList_load_row rfl _ (.tmp 4) rfl w.heap.size rfl _ q.cells.toArray (0,0) _ HM11.out Tryz.underlying35 rfl (by kernel_rfl) ?_)
        | (refine wpList_load_row rfl _ (.tmp 12) rfl gl rfl _ x3.cells.toArray (0,0) _ HL11.out Tryz.underlying53 rfl (by kernel_rfl) ?_)
        | (go_at_call 108;(with_reducible refine HSE.out.mono ?_);rintro e w12 ⟨q3,rfl,hr12,hp12,hc12,hk12⟩
           have HR12:=hid hr12
           have HP12:=hid hp12
           have HC12:=hid hc12
           have HK12:=hid hk12
           have HZ12:=hid (HZ11.out.keep hk12 (fun f=>f))
           clear hr12 hp12 hc12 hk12)
        | (refine wpList_store_row rfl _ (.tmp 8) (.tmp 77) rfl (w.heap.size+1+1) q3.cells.toArray rfl rfl _ _ HZ12.out (by kernel_rfl) rfl (one_toArray (q_one q3)) ?_))
       have hkr:Keep (fun j=>j=(w.heap.size+1+1)) w12 (w12.setRow (w.heap.size+1+1) q3.cells.toArray):=Keep.row _ _ _
       refine bodyPost_ret (results_cell_row rfl _ _ _ _ _ _ _ rfl (HZ12.out.row _) Tryz.underlying35 rfl (by kernel_rfl)) rfl ⟨q3,rfl,?_,by rw [HP12.out,HPT.out],HC12.out,(HW11.out.then HK12.out).trans hkr (fun j hj e=>by have e2:j=w.heap.size+1+1:=e;omega)⟩
       refine (HR12.out.keep hkr (fun j hj e=>.inr ?_)).wide (fun j _ hj=>.inl hj)
       have e2:j=w.heap.size+1+1:=e
       have h7:=HW7S.out
       omega
      ·have dn:(m.n == (s2.ans.length:Int))=false:=by simpa using n3
       have HPT:=hid (show q.pt.ack k x.pt m now=q.pt.put k x2.pt from by
        rw [HAK.out,if_pos HGD.out,HX2.out,if_neg (fun h=>n3 h.2)];rfl)
       clear s3 n3
       go_upto_region 13 with fail
       have HSE:=hid (set_any w10 (AvN w Av w7) (fun j hj=>Nat.lt_of_lt_of_le (HAV7.out j hj) HZ90.out) q (HRL.out w10 w7 HW10.out) hn k HKL.out x2 HQ10.out)
       unfold QPost at HSE
       go_wp2_with (first
        | (refine wpList_load_row rfl _ (.tmp 4) rfl w.heap.size rfl _ q.cells.toArray (0,0) _ HM10.out Tryz.underlying35 rfl (by kernel_rfl) ?_)
        | (refine wpList_load_row rfl _ (.tmp 12) rfl gl rfl _ x2.cells.toArray (0,0) _ HL10.out Tryz.underlying53 rfl (by kernel_rfl) ?_)
        | (go_at_call 108;(with_reducible refine HSE.out.mono ?_);rintro e w12 ⟨q3,rfl,hr12,hp12,hc12,hk12⟩
           have HR12:=hid hr12
           have HP12:=hid hp12
           have HC12:=hid hc12
           have HK12:=hid hk12
           have HZ12:=hid (HZ10.out.keep hk12 (fun f=>f))
           clear hr12 hp12 hc12 hk12)
        | (refine wpList_store_row rfl _ (.tmp 8) (.tmp 77) rfl (w.heap.size+1+1) q3.cells.toArray rfl rfl _ _ HZ12.out (by kernel_rfl) rfl (one_toArray (q_one q3)) ?_))
       have hkr:Keep (fun j=>j=(w.heap.size+1+1)) w12 (w12.setRow (w.heap.size+1+1) q3.cells.toArray):=Keep.row _ _ _
       refine bodyPost_ret (results_cell_row rfl _ _ _ _ _ _ _ rfl (HZ12.out.row _) Tryz.underlying35 rfl (by kernel_rfl)) rfl ⟨q3,rfl,?_,by rw [HP12.out,HPT.out],HC12.out,(HW10.out.then HK12.out).trans hkr (fun j hj e=>by have e2:j=w.heap.size+1+1:=e;omega)⟩
       refine (HR12.out.keep hkr (fun j hj e=>.inr ?_)).wide (fun j _ hj=>.inl hj)
       have e2:j=w.heap.size+1+1:=e
       have h7:=HW7S.out
       omega
    ·have da:(ae != 0)=true:=by simpa using a0
     have HB1:=hid (show ¬(er=0∧ae=0) from fun hh=>a0 hh.2)
     clear a0
     go_wp2_with (first
      | (refine wpList_load_row rfl _ (.tmp 4) rfl w.heap.size rfl _ q.cells.toArray (0,0) _ HM9.out Tryz.underlying35 rfl (by kernel_rfl) ?_)
      | (refine wpList_store_row rfl _ (.tmp 8) (.tmp 55) rfl (w.heap.size+1+1) q.cells.toArray rfl rfl _ _ HZ9.out (by kernel_rfl) rfl (one_toArray (q_one q)) ?_))
     refine bodyPost_ret (results_cell_row rfl _ _ _ _ _ _ _ rfl (HZ9.out.row _) Tryz.underlying35 rfl (by kernel_rfl)) rfl ?_
     rw [HAK.out,if_neg HB1.out]
     exact HSAME.out _ HW9.out
 ·have d0:(er != 0)=true:=by simpa using e0
  have HB1:=hid (show ¬(er=0∧ae=0) from fun hh=>e0 hh.1)
  clear e0
  go_upto_region 5 with (go_at_call 133;(with_reducible refine HEN.out.mono ?_);rintro e1 w6 ⟨rfl,rfl⟩)
  go_wp2_with (first
   | (refine wpList_load_row rfl _ (.tmp 4) rfl w.heap.size rfl _ q.cells.toArray (0,0) _ HM5.out Tryz.underlying35 rfl (by kernel_rfl) ?_)
   | (refine wpList_store_row rfl _ (.tmp 8) (.tmp 37) rfl (w.heap.size+1+1) q.cells.toArray rfl rfl _ _ HZ5.out (by kernel_rfl) rfl (one_toArray (q_one q)) ?_))
  refine bodyPost_ret (results_cell_row rfl _ _ _ _ _ _ _ rfl (HZ5.out.row _) Tryz.underlying35 rfl (by kernel_rfl)) rfl ?_
  rw [HAK.out,if_neg HB1.out]
  exact HSAME.out _ HW5.out
end Go.Proofs.YtbjddfiledoaoaaGreat

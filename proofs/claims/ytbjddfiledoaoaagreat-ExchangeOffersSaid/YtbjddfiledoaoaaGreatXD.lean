import Derived.Test.YtbjddfiledoaoaaGreatXA
import Derived.Test.YtbjddfiledoaoaaGreatMore
import Derived.Test.YtbjddfiledoaoaaGreatXT
namespace Go.Proofs.YtbjddfiledoaoaaGreat
open Go.RowKit
theorem results_cell_tmp {P:Program} {fn:Func} {p q:Tmp} {ty:TypeId} (h:fn.results=#[.cell p ty,.tmp q]) (tmps:Array Value) (w:World) (g:Nat) (t:TypeId) (cs:Array Value) (fr:Nat × Nat) (d:TypeDesc) (v:Value)
 (hp:tmps.getD p undef=.pointer (some ⟨g,0,none⟩)) (hq:tmps.getD q undef=v) (hg:w.heap[g]? = some (.cells cs t fr))
 (hu:P.underlying ty=some d) (hd:(match d with | .struct _ | .array _ _=>true | _=>false)=true) (hi:(P.info? ty).map (·.size)=some cs.size) :
 (results fn tmps).run P w=.ok (.tuple #[.agg cs,v]) w:=by
 have hp':tmps[p]?.getD undef=.pointer (some ⟨g,0,none⟩):=by simpa using hp
 have hq':tmps[q]?.getD undef=v:=by simpa using hq
 simp [results,h,hp',hq',asAddr,run_loadVar_row w g t ty cs fr d hg hu hd hi]
def z7:Array Value:=#[.int .i64 0,.int .i64 0,.int .i64 0,.int .i64 0,.int .i64 0,.int .i64 0,.slice none 0 0]
def dr1 (b:List UInt8):Int × RS:=rdInt ⟨b,0⟩
def dr2 (b:List UInt8):Int × RS:=rdInt (dr1 b).2
def dr3 (b:List UInt8):Int × RS:=rdInt (dr2 b).2
def dr4 (b:List UInt8):Int × RS:=rdInt (dr3 b).2
def dr5 (b:List UInt8):Int × RS:=rdInt (dr4 b).2
def dr6 (b:List UInt8):Int × RS:=rdInt (dr5 b).2
def dr7 (b:List UInt8):List UInt8 × RS:=rdBytes (dr6 b).2
def rawM (b:List UInt8):Nt:=⟨(dr1 b).1,(dr2 b).1,(dr3 b).1,(dr4 b).1,(dr5 b).1,(dr6 b).1,(dr7 b).1⟩
def errM (b:List UInt8):Int:=if endE (dr7 b).2=0 then (if vM (rawM b)=true then 0 else 2) else endE (dr7 b).2
def DecP (w:World) (b:List UInt8) (e:Ending) (w':World):Prop:=Same w w' ∧
 (errM b=0→∃ B c,e=.returned (.tuple #[.agg ((rawM b).cells B c).toArray,.int .i64 0])∧Sl w' (· < w.heap.size) 1 B (rawM b).body.length (bcells (rawM b).body)) ∧
 (¬errM b=0→e=.returned (.tuple #[.agg z7,.int .i64 (errM b)]))
structure DS (w W:World) (q nb rb:Nat) (s:RS) (cs:Array Value):Prop where
 same:Same w W
 res:Blk W q 66 z7
 row:Blk W nb 66 cs
 rd:∃ A n c,Rd W rb (fun i=>i<w.heap.size∨i=nb∨i=q) A n c s
 lo:w.heap.size≤q∧w.heap.size≤nb∧w.heap.size≤rb
 ne:¬rb=nb∧¬rb=q∧¬nb=q
section
variable {w W W':World} {q nb rb:Nat} {s s':RS} {cs:Array Value}
theorem DS.read {v:Value} {e:Ending} (h:DS w W q nb rb s cs) (hp:RPost W rb (fun i=>i<w.heap.size∨i=nb∨i=q) s' v e W'):e=.returned v∧DS w W' q nb rb s' cs:=by
 obtain ⟨A,n,c,rfl,h1,h2⟩:=hp
 have hl:=h.lo
 have hn:=h.ne
 exact ⟨rfl,h.same.trans h2 (fun i hi e=>by have e2:i=rb:=e;omega),h.res.keep h2 (fun e=>hn.2.1 e.symm),h.row.keep h2 (fun e=>hn.1 e.symm),⟨A,n,c,h1⟩,hl,hn⟩
theorem DS.put (h:DS w W q nb rb s cs) (i:Nat) (u:Value):DS w (W.setCell ⟨nb,i,none⟩ u) q nb rb s (cs.setIfInBounds i u):=by
 have hl:=h.lo
 have hn:=h.ne
 have hk:Keep (· = nb) W (W.setCell ⟨nb,i,none⟩ u):=(Keep.refl _ _).put _ _
 obtain ⟨A,n,c,hr⟩:=h.rd
 exact ⟨h.same.trans hk (fun j hj e=>by have e2:j=nb:=e;omega),h.res.keep hk (fun e=>hn.2.2 e.symm),h.row.put i u,⟨A,n,c,hr.keep hk (fun j _ e=>.inr (.inl e))⟩,hl,hn⟩
theorem DS.keep {_S:Nat→Prop} (h:DS w W q nb rb s cs) (hk:Same W W'):DS w W' q nb rb s cs:=by
 obtain ⟨A,n,c,hr⟩:=h.rd
 exact ⟨h.same.then hk,h.res.keep hk (fun f=>f),h.row.keep hk (fun f=>f),⟨A,n,c,hr.same hk⟩,h.lo,h.ne⟩
theorem DS.int (h:DS w W q nb rb s cs):Calls Tryz.prog 48 #[.pointer (some ⟨rb,0,none⟩)] W fun e w'=>e=.returned (.int .i64 (rdInt s).1)∧DS w w' q nb rb (rdInt s).2 cs:=by
 obtain ⟨A,n,c,hr⟩:=h.rd
 exact (rInt_any W rb _ A n c s hr).mono (fun e w' hp=>h.read hp)
end
theorem rdBytes_len (s:RS):(rdBytes s).2.rest.length≤s.rest.length:=by
 unfold rdBytes
 have:=rdMany_len s
 split
 ·exact this
 ·simp only [List.length_drop];omega
theorem z7_one:z7.all (·.oneCell')=true:=one_toArray (cs:=[.int .i64 0,.int .i64 0,.int .i64 0,.int .i64 0,.int .i64 0,.int .i64 0,.slice none 0 0]) (fun u hu=>by
 simp only [List.mem_cons,List.not_mem_nil,or_false] at hu
 rcases hu with rfl | rfl | rfl | rfl | rfl | rfl | rfl <;> rfl)
theorem nt_one (m:Nt) (B:Option Addr) (c:Nat):(m.cells B c).toArray.all (·.oneCell')=true:=one_toArray (fun u hu=>by
 simp only [Nt.cells,List.mem_cons,List.not_mem_nil,or_false] at hu
 rcases hu with rfl | rfl | rfl | rfl | rfl | rfl | rfl <;> rfl)
set_option maxHeartbeats 8000000 in
set_option maxRecDepth 100000 in
theorem decode_any (w:World) (A:Option Addr) (n c:Nat) (b:List UInt8) (h:Sl w (fun _=>False) 1 A n (bcells b)) (hn:n≤1000000):Calls Tryz.prog 23 #[.slice A n c] w (DecP w b):=by
 have hl:b.length=n:=by have:=h.len;simpa [bcells] using this
 have HQ:=hid (Blk.made w 66 z7)
 have hk0:=(Keep.refl (fun _=>False) w).alloc (.cells z7 66)
 have HK0:=hid hk0
 have HR:=hid (newReader_any _ (fun _=>False) A n c b (h.same hk0) (by omega))
 unfold NewRd at HR
 have HLN:=hid hl
 clear h hk0 hl
 simp only [z7] at HR HQ HK0
 go_enter Tryz.func23,Tryz.ntmps23
 go_upto_region 2 with (go_at_call 47;(with_reducible refine HR.out.mono ?_);rintro e1 w1 ⟨rb,A1,c1,rfl,hrb,hR,hk1⟩;have HRD:=hid hR;have HK1:=hid hk1;have HRB:=hid hrb;clear hR hk1 hrb)
 have hds:DS w (w1.alloc (.cells z7 66)) w.heap.size w1.heap.size rb ⟨b,0⟩ z7:=by
  have hq1:=HQ.out.keep HK1.out (fun f=>f)
  have hql:=hq1.lt
  have hrb:=HRB.out
  have hrl:=HRD.out.top.lt
  rw [World.size_alloc] at hrb
  have ha:Same w1 (w1.alloc (.cells z7 66)):=(Keep.refl _ _).alloc _
  exact ⟨(HK0.out.then HK1.out).then ha,hq1.keep ha (fun f=>f),Blk.made _ _ _,⟨A1,_,c1,(HRD.out.wide (fun i hi h=>by rw [World.size_alloc];omega)).same ha⟩,by omega,by omega,by omega,by omega⟩
 have HD0:=hid hds
 clear hds HQ HK0 HR
 go_upto_region 3 with fail
 simp only [z7] at HD0
 generalize (w1.alloc (.cells #[.int .i64 0,.int .i64 0,.int .i64 0,.int .i64 0,.int .i64 0,.int .i64 0,.slice none 0 0] 66))=v0 at *
 obtain ⟨nb,hnb⟩:∃ x,x=w1.heap.size:=⟨_,rfl⟩
 rw [←hnb] at HD0 ⊢
 clear hnb HRD HK1 HRB
 have HI:=hid (show Calls Tryz.prog 48 #[.pointer (some ⟨rb,0,none⟩)] v0 (fun e w'=>e=.returned (.int .i64 (dr1 b).1)∧DS w w' w.heap.size nb rb (dr1 b).2 #[.int .i64 0,.int .i64 0,.int .i64 0,.int .i64 0,.int .i64 0,.int .i64 0,.slice none 0 0]) from HD0.out.int)
 go_upto_region 4 with (go_at_call 48;(with_reducible refine HI.out.mono ?_);rintro e1 u1 ⟨rfl,hd⟩;have ca:=hd.row.at_ 0;have fa:=hd.row.free 0;have HE:=hid hd;clear hd)
 have hd:=HE.out.put 0 (.int .i64 (dr1 b).1)
 simp only [List.setIfInBounds_toArray,List.set_cons_zero] at hd
 have HD1:=hid hd
 clear hd ca fa HI HD0 HE
 generalize (u1.setCell ⟨nb,0,none⟩ (.int .i64 (dr1 b).1))=v1 at *
 have HI:=hid (show Calls Tryz.prog 48 #[.pointer (some ⟨rb,0,none⟩)] v1 (fun e w'=>e=.returned (.int .i64 (dr2 b).1)∧DS w w' w.heap.size nb rb (dr2 b).2 #[.int .i64 (dr1 b).1,.int .i64 0,.int .i64 0,.int .i64 0,.int .i64 0,.int .i64 0,.slice none 0 0]) from HD1.out.int)
 go_upto_region 5 with (go_at_call 48;(with_reducible refine HI.out.mono ?_);rintro e1 u2 ⟨rfl,hd⟩;have ca:=hd.row.at_ 1;have fa:=hd.row.free 1;have HE:=hid hd;clear hd)
 have hd:=HE.out.put 1 (.int .i64 (dr2 b).1)
 simp only [List.setIfInBounds_toArray,List.set_cons_zero,List.set_cons_succ] at hd
 have HD2:=hid hd
 clear hd ca fa HI HD1 HE
 generalize (u2.setCell ⟨nb,1,none⟩ (.int .i64 (dr2 b).1))=v2 at *
 have HI:=hid (show Calls Tryz.prog 48 #[.pointer (some ⟨rb,0,none⟩)] v2 (fun e w'=>e=.returned (.int .i64 (dr3 b).1)∧DS w w' w.heap.size nb rb (dr3 b).2 #[.int .i64 (dr1 b).1,.int .i64 (dr2 b).1,.int .i64 0,.int .i64 0,.int .i64 0,.int .i64 0,.slice none 0 0]) from HD2.out.int)
 go_upto_region 6 with (go_at_call 48;(with_reducible refine HI.out.mono ?_);rintro e1 u3 ⟨rfl,hd⟩;have ca:=hd.row.at_ 2;have fa:=hd.row.free 2;have HE:=hid hd;clear hd)
 have hd:=HE.out.put 2 (.int .i64 (dr3 b).1)
 simp only [List.setIfInBounds_toArray,List.set_cons_zero,List.set_cons_succ] at hd
 have HD3:=hid hd
 clear hd ca fa HI HD2 HE
 generalize (u3.setCell ⟨nb,2,none⟩ (.int .i64 (dr3 b).1))=v3 at *
 have HI:=hid (show Calls Tryz.prog 48 #[.pointer (some ⟨rb,0,none⟩)] v3 (fun e w'=>e=.returned (.int .i64 (dr4 b).1)∧DS w w' w.heap.size nb rb (dr4 b).2 #[.int .i64 (dr1 b).1,.int .i64 (dr2 b).1,.int .i64 (dr3 b).1,.int .i64 0,.int .i64 0,.int .i64 0,.slice none 0 0]) from HD3.out.int)
 go_upto_region 7 with (go_at_call 48;(with_reducible refine HI.out.mono ?_);rintro e1 u4 ⟨rfl,hd⟩;have ca:=hd.row.at_ 3;have fa:=hd.row.free 3;have HE:=hid hd;clear hd)
 have hd:=HE.out.put 3 (.int .i64 (dr4 b).1)
 simp only [List.setIfInBounds_toArray,List.set_cons_zero,List.set_cons_succ] at hd
 have HD4:=hid hd
 clear hd ca fa HI HD3 HE
 generalize (u4.setCell ⟨nb,3,none⟩ (.int .i64 (dr4 b).1))=v4 at *
 have HI:=hid (show Calls Tryz.prog 48 #[.pointer (some ⟨rb,0,none⟩)] v4 (fun e w'=>e=.returned (.int .i64 (dr5 b).1)∧DS w w' w.heap.size nb rb (dr5 b).2 #[.int .i64 (dr1 b).1,.int .i64 (dr2 b).1,.int .i64 (dr3 b).1,.int .i64 (dr4 b).1,.int .i64 0,.int .i64 0,.slice none 0 0]) from HD4.out.int)
 go_upto_region 8 with (go_at_call 48;(with_reducible refine HI.out.mono ?_);rintro e1 u5 ⟨rfl,hd⟩;have ca:=hd.row.at_ 4;have fa:=hd.row.free 4;have HE:=hid hd;clear hd)
 have hd:=HE.out.put 4 (.int .i64 (dr5 b).1)
 simp only [List.setIfInBounds_toArray,List.set_cons_zero,List.set_cons_succ] at hd
 have HD5:=hid hd
 clear hd ca fa HI HD4 HE
 generalize (u5.setCell ⟨nb,4,none⟩ (.int .i64 (dr5 b).1))=v5 at *
 have HI:=hid (show Calls Tryz.prog 48 #[.pointer (some ⟨rb,0,none⟩)] v5 (fun e w'=>e=.returned (.int .i64 (dr6 b).1)∧DS w w' w.heap.size nb rb (dr6 b).2 #[.int .i64 (dr1 b).1,.int .i64 (dr2 b).1,.int .i64 (dr3 b).1,.int .i64 (dr4 b).1,.int .i64 (dr5 b).1,.int .i64 0,.slice none 0 0]) from HD5.out.int)
 go_upto_region 9 with (go_at_call 48;(with_reducible refine HI.out.mono ?_);rintro e1 u6 ⟨rfl,hd⟩;have ca:=hd.row.at_ 5;have fa:=hd.row.free 5;have HE:=hid hd;clear hd)
 have hd:=HE.out.put 5 (.int .i64 (dr6 b).1)
 simp only [List.setIfInBounds_toArray,List.set_cons_zero,List.set_cons_succ] at hd
 have HD6:=hid hd
 clear hd ca fa HI HD5 HE
 generalize (u6.setCell ⟨nb,5,none⟩ (.int .i64 (dr6 b).1))=v6 at *
 have hrl:(dr6 b).2.rest.length≤1000000:=by
  have h1:=rdInt_len ⟨b,0⟩
  have h2:=rdInt_len (dr1 b).2
  have h3:=rdInt_len (dr2 b).2
  have h4:=rdInt_len (dr3 b).2
  have h5:=rdInt_len (dr4 b).2
  have h6:=rdInt_len (dr5 b).2
  have h0:(⟨b,0⟩:RS).rest.length≤1000000:=by have:=HLN.out;simp only;omega
  exact Nat.le_trans h6 (Nat.le_trans h5 (Nat.le_trans h4 (Nat.le_trans h3 (Nat.le_trans h2 (Nat.le_trans h1 h0)))))
 obtain ⟨A6,n6,c6,hR6⟩:=HD6.out.rd
 have HB:=hid (show Calls Tryz.prog 49 #[.pointer (some ⟨rb,0,none⟩)] v6 (SPost v6 rb (fun i=>i<w.heap.size∨i=nb∨i=w.heap.size) 5 (dr7 b).2 (bcells (dr7 b).1)) from rBytes_any v6 rb _ A6 n6 c6 (dr6 b).2 hR6 (by omega))
 unfold SPost at HB
 clear hR6
 go_upto_region 10 with (go_at_call 49;(with_reducible refine HB.out.mono ?_);rintro e1 u7 ⟨A7,n7,c7,B,rfl,hR7,hk7,hB7⟩;have hd:=(HD6.out.read (v:=.tuple #[]) ⟨A7,n7,c7,rfl,hR7,hk7⟩).2;have ca:=hd.row.at_ 6;have fa:=hd.row.free 6;have HE:=hid hd;have HB7:=hid hB7;have HK7:=hid hk7;clear hd hR7 hk7 hB7)
 rw [bcells_len]
 have hd:=HE.out.put 6 (.slice B (dr7 b).1.length (dr7 b).1.length)
 simp only [List.setIfInBounds_toArray,List.set_cons_zero,List.set_cons_succ] at hd
 have HD7:=hid hd
 have HSB:Hid (Sl (u7.setCell ⟨nb,6,none⟩ (.slice B (dr7 b).1.length (dr7 b).1.length)) (·≤w.heap.size) 1 B (dr7 b).1.length (bcells (dr7 b).1)):=by
  have hq6:=HD6.out.res.lt
  refine hid ⟨by rw [bcells_len];omega,fun hp=>?_⟩
  obtain ⟨g,rfl,hg,hb⟩:=HB7.out (by rw [bcells_len];exact hp)
  have hz:=HD6.out.same.size
  have hnb:=HD6.out.row.lt
  have hbk:=hb.keep ((Keep.refl (· = nb) u7).put 6 (.slice (some ⟨g,0,none⟩) (dr7 b).1.length (dr7 b).1.length)) (fun e=>by have e2:g=nb:=e;omega)
  exact ⟨g,0,rfl,hbk.lt,by omega,fun j u hu=>by
   rw [Nat.zero_add,hbk.at_ j]
   simpa using hu⟩
 clear hd ca fa HB HD6 HE HB7 HK7
 generalize (u7.setCell ⟨nb,6,none⟩ (.slice B (dr7 b).1.length (dr7 b).1.length))=v7 at *
 have hrl7:(dr7 b).2.rest.length≤1000000:=Nat.le_trans (rdBytes_len (dr6 b).2) hrl
 obtain ⟨A8,n8,c8,hR8⟩:=HD7.out.rd
 have HFI:=hid (finish_any v7 rb _ A8 n8 c8 (dr7 b).2 hR8 (by omega))
 have HVM:=hid (show Calls Tryz.prog 51 #[.agg #[.int .i64 (dr1 b).1,.int .i64 (dr2 b).1,.int .i64 (dr3 b).1,.int .i64 (dr4 b).1,.int .i64 (dr5 b).1,.int .i64 (dr6 b).1,.slice B (dr7 b).1.length (dr7 b).1.length]] v7 (fun e w'=>e=.returned (.bool (vM (rawM b)))∧Same v7 w') from validM_any v7 (rawM b) B (dr7 b).1.length)
 have HERR:=hid (show errM b=if endE (dr7 b).2=0 then (if vM (rawM b)=true then 0 else 2) else endE (dr7 b).2 from rfl)
 have HRAW:=hid (show ((rawM b).cells B (dr7 b).1.length).toArray=#[.int .i64 (dr1 b).1,.int .i64 (dr2 b).1,.int .i64 (dr3 b).1,.int .i64 (dr4 b).1,.int .i64 (dr5 b).1,.int .i64 (dr6 b).1,.slice B (dr7 b).1.length (dr7 b).1.length] from rfl)
 have HON:=hid (nt_one (rawM b) B (dr7 b).1.length)
 rw [HRAW.out] at HON
 clear hR8
 have hwr:=HD7.out.res.lt
 have HRB:Hid ((rawM b).body=(dr7 b).1):=hid rfl
 by_cases he:endE (dr7 b).2=0
 ·have d0:(endE (dr7 b).2 != 0)=false:=by simp [he]
  cases hv:vM (rawM b) with
  | true =>
    have HE:=hid (show errM b=0 from by rw [HERR.out,if_pos he,if_pos hv])
    rw [hv] at HVM
    clear he hv
    go_upto_region 13 with (go_at_call 50;(with_reducible refine HFI.out.mono ?_);rintro e1 u8 ⟨rfl,rfl⟩)
    go_upto_region 15 with (first
     | (refine wpList_load_row rfl _ (.tmp 5) rfl nb rfl _ #[.int .i64 (dr1 b).1,.int .i64 (dr2 b).1,.int .i64 (dr3 b).1,.int .i64 (dr4 b).1,.int .i64 (dr5 b).1,.int .i64 (dr6 b).1,.slice B (dr7 b).1.length (dr7 b).1.length] (0,0) _ HD7.out.row Tryz.underlying66 rfl (by kernel_rfl) ?_)
     | (go_at_call 51;(with_reducible refine HVM.out.mono ?_);rintro e1 u8 ⟨rfl,hk8⟩;have HD8:=hid (DS.keep (_S:=fun _=>False) HD7.out hk8);have HS8:=hid (HSB.out.same hk8);clear hk8))
    go_wp2_with (first
     | (refine wpList_load_row rfl _ (.tmp 5) rfl nb rfl _ #[.int .i64 (dr1 b).1,.int .i64 (dr2 b).1,.int .i64 (dr3 b).1,.int .i64 (dr4 b).1,.int .i64 (dr5 b).1,.int .i64 (dr6 b).1,.slice B (dr7 b).1.length (dr7 b).1.length] (0,0) _ HD8.out.row Tryz.underlying66 rfl (by kernel_rfl) ?_)
     | (refine wpList_store_row rfl _ (.tmp 2) (.tmp 40) rfl w.heap.size #[.int .i64 (dr1 b).1,.int .i64 (dr2 b).1,.int .i64 (dr3 b).1,.int .i64 (dr4 b).1,.int .i64 (dr5 b).1,.int .i64 (dr6 b).1,.slice B (dr7 b).1.length (dr7 b).1.length] rfl rfl _ _ HD8.out.res (by kernel_rfl) rfl HON.out ?_))
    have HRES:=hid (HD8.out.res.row #[.int .i64 (dr1 b).1,.int .i64 (dr2 b).1,.int .i64 (dr3 b).1,.int .i64 (dr4 b).1,.int .i64 (dr5 b).1,.int .i64 (dr6 b).1,.slice B (dr7 b).1.length (dr7 b).1.length])
    refine bodyPost_ret (results_cell_tmp rfl _ _ w.heap.size 66 #[.int .i64 (dr1 b).1,.int .i64 (dr2 b).1,.int .i64 (dr3 b).1,.int .i64 (dr4 b).1,.int .i64 (dr5 b).1,.int .i64 (dr6 b).1,.slice B (dr7 b).1.length (dr7 b).1.length] (0,0) _ (.int .i64 0) rfl rfl HRES.out Tryz.underlying66 rfl (by kernel_rfl)) rfl ?_
    have hkr:=Keep.row u8 w.heap.size #[.int .i64 (dr1 b).1,.int .i64 (dr2 b).1,.int .i64 (dr3 b).1,.int .i64 (dr4 b).1,.int .i64 (dr5 b).1,.int .i64 (dr6 b).1,.slice B (dr7 b).1.length (dr7 b).1.length]
    refine ⟨HD8.out.same.trans hkr (fun i hi e=>by have e2:i=w.heap.size:=e;omega),fun _=>⟨B,(dr7 b).1.length,by rw [HRAW.out],?_⟩,fun h=>absurd HE.out h⟩
    exact (HS8.out.keep hkr (fun i hi e=>by have e2:i=w.heap.size:=e;omega)).wide (fun i _ hi=>Nat.le_of_lt hi)
  | false =>
    have HE:=hid (show errM b=2 from by rw [HERR.out,if_pos he,if_neg (by simp [hv])])
    rw [hv] at HVM
    clear he hv
    go_upto_region 13 with (go_at_call 50;(with_reducible refine HFI.out.mono ?_);rintro e1 u8 ⟨rfl,rfl⟩)
    go_upto_region 14 with (first
     | (refine wpList_load_row rfl _ (.tmp 5) rfl nb rfl _ #[.int .i64 (dr1 b).1,.int .i64 (dr2 b).1,.int .i64 (dr3 b).1,.int .i64 (dr4 b).1,.int .i64 (dr5 b).1,.int .i64 (dr6 b).1,.slice B (dr7 b).1.length (dr7 b).1.length] (0,0) _ HD7.out.row Tryz.underlying66 rfl (by kernel_rfl) ?_)
     | (go_at_call 51;(with_reducible refine HVM.out.mono ?_);rintro e1 u8 ⟨rfl,hk8⟩;have HD8:=hid (DS.keep (_S:=fun _=>False) HD7.out hk8);clear hk8))
    go_wp2_with (refine wpList_store_row rfl _ (.tmp 2) (.tmp 39) rfl w.heap.size z7 rfl rfl _ _ HD8.out.res (by kernel_rfl) rfl z7_one ?_)
    have HRES:=hid (HD8.out.res.row z7)
    refine bodyPost_ret (results_cell_tmp rfl _ _ w.heap.size 66 z7 (0,0) _ (.int .i64 2) rfl rfl HRES.out Tryz.underlying66 rfl (by kernel_rfl)) rfl ?_
    exact ⟨HD8.out.same.trans (Keep.row _ _ _) (fun i hi e=>by have e2:i=w.heap.size:=e;omega),fun h=>absurd (HE.out.symm.trans h) (by decide),fun _=>by rw [HE.out]⟩
 ·have d0:(endE (dr7 b).2 != 0)=true:=by simpa using he
  have HE:=hid (show errM b=endE (dr7 b).2 from by rw [HERR.out,if_neg he])
  have HNE:=hid he
  clear he
  generalize endE (dr7 b).2=er at *
  go_upto_region 12 with (go_at_call 50;(with_reducible refine HFI.out.mono ?_);rintro e1 u8 ⟨rfl,rfl⟩)
  go_wp2_with (refine wpList_store_row rfl _ (.tmp 2) (.tmp 34) rfl w.heap.size z7 rfl rfl _ _ HD7.out.res (by kernel_rfl) rfl z7_one ?_)
  have HRES:=hid (HD7.out.res.row z7)
  refine bodyPost_ret (results_cell_tmp rfl _ _ w.heap.size 66 z7 (0,0) _ (.int .i64 er) rfl rfl HRES.out Tryz.underlying66 rfl (by kernel_rfl)) rfl ?_
  exact ⟨HD7.out.same.trans (Keep.row _ _ _) (fun i hi e=>by have e2:i=w.heap.size:=e;omega),fun h=>absurd (HE.out.symm.trans h) HNE.out,fun _=>by rw [HE.out]⟩
theorem range_ltX {w:World} {p:Addr} {v:Value} (h:w.cell? p=some v):p.block<w.heap.size:=by
 cases hb:w.heap[p.block]? with
 | none=>unfold World.cell? at h;rw [hb] at h;cases h
 | some _=>exact (Array.getElem?_eq_some_iff.1 hb).1
set_option maxHeartbeats 8000000 in
set_option maxRecDepth 100000 in
theorem ackX {w:World} {T:Tags} {p:PS} (h:PX w T p) {k:Nat} {x:RA} (hx:p.R[k]? = some x) (hok:LnOk x.pt) (m:Nt) (A:Option Addr) (cap:Nat) (hm:vM m=true) (hb:Sl w (fun i=>T i≠none) 1 A m.body.length (bcells m.body)) (now:Int) :
 Calls Tryz.prog 41 #[.pointer (some ⟨x.rb,0,none⟩),.agg (m.cells A cap).toArray,.int .i64 now] w (PPost w T p.x p.lv (p.pt.ack k x.pt m now) (.tuple #[])):=by
 have HX:=hid h
 have hr:=h.recs k x hx
 have HR:=hid hr
 have HXX:=hid hx
 have hk1:=(Keep.refl (fun _=>False) w).alloc (.cells (m.cells A cap).toArray 66)
 have HB1:=hid (Blk.made w 66 (m.cells A cap).toArray)
 have HK1:=hid hk1
 have hml:=(vM_iff.1 hm).2.2.2.2.2.2
 have HN:=hid (newReader_any _ (fun i=>T i≠none) A m.body.length cap m.body (hb.same hk1) (by omega))
 unfold NewRd at HN
 have HQT:=hid (fun i (hi:T i≠none)=>h.lt i hi)
 obtain ⟨nm,hnm⟩:∃ nm,nm=(ackR m.body).1:=⟨_,rfl⟩
 obtain ⟨ve,hve⟩:∃ ve,ve=(ackR m.body).2.1:=⟨_,rfl⟩
 obtain ⟨er,her⟩:∃ er,er=(ackR m.body).2.2:=⟨_,rfl⟩
 have HAK:=hid (show p.pt.ack k x.pt m now=if er=0∧acceptE x.s m.e (strOf nm) ve=0 then p.pt.put k { x.pt with s:=acceptS x.s m.e (strOf nm) ve,last:=if (acceptS x.s m.e (strOf nm) ve).st≠3∧m.n=((acceptS x.s m.e (strOf nm) ve).ans.length:Int) then max x.last now else x.last } else p.pt from by rw [hnm,hve,her];rfl)
 have HAC:=hid (fun W (hk:Same w W)=>accept_any W x.lb x.r x.A x.c x.s (hr.line.same hk) m.e (strOf nm) ve)
 have HU:=hid (show ¬acceptE x.s m.e (strOf nm) ve=0→acceptS x.s m.e (strOf nm) ve=x.s from fun e0=>by unfold acceptS;rw [if_neg e0])
 have HVL:=hid (show VL (acceptS x.s m.e (strOf nm) ve) from accept_vl hok.vl m.e (strOf nm) ve)
 generalize acceptE x.s m.e (strOf nm) ve=ae at *
 generalize acceptS x.s m.e (strOf nm) ve=s2 at *
 have HR1:=hid (show (rdBytes ⟨m.body,0⟩).1=nm from hnm.symm)
 have HR2:=hid (show (rdInt (rdBytes ⟨m.body,0⟩).2).1=ve from hve.symm)
 have HR3:=hid (show endE (rdInt (rdBytes ⟨m.body,0⟩).2).2=er from her.symm)
 have HXK:=hid hx
 clear h hr hx hok hk1 hb hm hnm hve her
 obtain ⟨mk,mcall,md,mc,me,mn,mb⟩:=m
 simp only [Nt.cells] at HB1 HK1 HN ⊢
 simp only at hml HAK HAC HR1 HR2 HR3
 go_enter Tryz.func41,Tryz.ntmps41
 go_upto_region 1 with fail
 generalize (w.alloc (.cells #[.int .i64 mk,.int .i64 mcall,.int .i64 md,.int .i64 mc,.int .i64 me,.int .i64 mn,.slice A mb.length cap] 66))=w1 at *
 obtain ⟨q,hq⟩:∃ q,q=w.heap.size:=⟨_,rfl⟩
 rw [←hq] at HB1 ⊢
 have HQ:=hid hq
 clear hq
 have y6:w1.cell? ⟨q,6,none⟩=some (.slice A mb.length cap):=HB1.out.at_ 6
 go_upto_region 2 with (go_at_call 47;(with_reducible refine HN.out.mono ?_);rintro e1 w2 ⟨rb,A1,c1,rfl,hrb,hR,hk2⟩;have HRD:=hid hR;have HK2:=hid hk2;have HRB:=hid hrb;clear hR hk2 hrb)
 have HST:=hid (rString_any w2 rb _ A1 _ c1 ⟨mb,0⟩ HRD.out (show mb.length≤1000000000 by omega))
 rw [HR1.out] at HST
 unfold RPost at HST
 clear y6
 go_upto_region 3 with (go_at_call 70;(with_reducible refine HST.out.mono ?_);rintro e1 w3 ⟨A3,n3,c3,rfl,hR,hk3⟩;have HRD3:=hid hR;have HK3:=hid hk3;clear hR hk3)
 have HIN:=hid (rInt_any w3 rb _ A3 n3 c3 _ HRD3.out)
 rw [HR2.out] at HIN
 unfold RPost at HIN
 go_upto_region 4 with (go_at_call 48;(with_reducible refine HIN.out.mono ?_);rintro e1 w4 ⟨A4,n4,c4,rfl,hR,hk4⟩;have HRD4:=hid hR;have HK4:=hid hk4;clear hR hk4)
 have HFI:=hid (fun W (hk:Same w4 W)=>show Calls Tryz.prog 50 #[.pointer (some ⟨rb,0,none⟩)] W (fun e w'=>e=.returned (.int .i64 er)∧w'=W) from by
  have:=finish_any W rb _ A4 n4 c4 _ (HRD4.out.same hk) (Nat.le_trans (rdInt_len _) (Nat.le_trans (rdBytes_len _) (show mb.length≤1000000000 by omega)))
  rw [HR3.out] at this
  exact this.mono (fun _ _ h=>⟨h.1,h.2.symm⟩))
 have hw4:Same w w4:=by
  have hrb:=HRB.out
  have h1:=HK1.out.size
  have h2:=HK2.out.size
  exact ((HK1.out.then HK2.out).trans HK3.out (fun i hi e=>by have e2:i=rb:=e;omega)).trans HK4.out (fun i hi e=>by have e2:i=rb:=e;omega)
 have hb4:Blk w4 q 66 #[.int .i64 mk,.int .i64 mcall,.int .i64 md,.int .i64 mc,.int .i64 me,.int .i64 mn,.slice A mb.length cap]:=by
  have hrb:=HRB.out
  have hql:=HB1.out.lt
  exact ((HB1.out.keep HK2.out (fun f=>f)).keep HK3.out (fun e=>by have e2:q=rb:=e;omega)).keep HK4.out (fun e=>by have e2:q=rb:=e;omega)
 have HW4:=hid hw4
 have HB4:=hid hb4
 have z0:w4.cell? ⟨x.rb,0,none⟩=some (.pointer (some ⟨x.lb,0,none⟩)):=((HR.out.blk.keep hw4 (fun f=>f)).at_ 0).trans rfl
 have y4:w4.cell? ⟨q,4,none⟩=some (.int .i64 me):=hb4.at_ 4
 clear hw4 hb4 HN HST HIN HRD HRD3 HRD4 HK2 HK3 HK4 HB1 HRB HR1 HR2 HR3
 have hxr:x.rb<w4.heap.size:=range_ltX z0
 by_cases e0:er=0
 ·have d0:(er != 0)=false:=by simp [e0]
  have HE0:=hid e0
  clear e0
  refine wp_region_held_drew (S:=fun W=>W.cell? ⟨x.rb,0,none⟩=some (.pointer (some ⟨x.lb,0,none⟩))∧W.cell? ⟨q,4,none⟩=some (.int .i64 me)) (by kernel_rfl) ⟨z0,y4⟩ (fun hHeld=>?_)
  refine tk 0 ?_
  have HWd:=hid (HW4.out.then (Keep.refl (fun _=>False) w4).drew)
  have HBd:=hid (HB4.out.keep (Keep.refl (fun _=>False) w4).drew (fun f=>f))
  have HFd:=hid (HFI.out _ (Keep.refl (fun _=>False) w4).drew)
  clear hHeld z0 y4 HFI HB4 HW4
  generalize w4.drew=wd at *
  have zd:wd.cell? ⟨x.rb,0,none⟩=some (.pointer (some ⟨x.lb,0,none⟩)):=((HR.out.blk.keep HWd.out (fun f=>f)).at_ 0).trans rfl
  have yd:wd.cell? ⟨q,4,none⟩=some (.int .i64 me):=HBd.out.at_ 4
  refine rd1 1 (fun K hK=>?_)
  go_simp
  (with_reducible refine HFd.out.mono ?_)
  rintro e1 wq ⟨rfl,hwq⟩
  subst hwq
  refine hK.out _ _ ⟨zd,yd⟩ (fun hHeld1=>?_)
  clear hK K
  refine pput ?_
  refine tk 2 ?_
  refine tk 3 ?_
  refine tk 4 ?_
  refine tk 5 ?_
  refine tk 6 ?_
  refine tk 7 ?_
  refine tk 8 ?_
  refine tk 9 ?_
  refine tk 10 ?_
  refine tk 11 ?_
  refine rd1 12 (fun K hK=>?_)
  go_simp
  (with_reducible refine (HAC.out _ HWd.out).mono ?_)
  rintro e1 w5 hp
  have hk5:Keep (fun i=>i=x.lb∨some i=x.r) wq w5:=by
   obtain ⟨_,_,_,_,_,hk,_⟩:=hp
   exact hk
  obtain ⟨rfl,x2,T2,S2,i1,i2,i3,i4,i5,i6,i7,i8,hx2,hm2,hs2⟩:=(HX.out.same HWd.out).lop HXX.out hp
  have hlbq:x.lb<q:=by rw [HQ.out];exact HR.out.line.top.lt
  have hrq:∀ g,x.r=some g→g<q:=fun g hg=>by rw [HQ.out];exact HR.out.line.lt g hg
  have hb5:=HBd.out.keep hk5 (fun hs=>by rcases hs with hs | hs;omega;have:=hrq q hs.symm;omega)
  have hlk:=(List.getElem?_eq_some_iff.1 HXX.out).1
  have hr2:=hx2.recs k x2 (by rw [List.getElem?_set_self hlk])
  have HB5:=hid hb5
  have HX2:=hid hx2
  have HR2:=hid hr2
  have HM2:=hid hm2
  have HS2:=hid hs2
  have HI:=hid (And.intro i1 (And.intro i2 (And.intro i3 (And.intro i4 (And.intro i5 i6)))))
  have z5:w5.cell? ⟨x.rb,0,none⟩=some (.pointer (some ⟨x.lb,0,none⟩)):=by
   have:=hr2.blk.at_ 0
   rw [i1,RA.cells,i2] at this
   exact this
  have y5:w5.cell? ⟨q,4,none⟩=some (.int .i64 me):=hb5.at_ 4
  refine hK.out _ _ ⟨z5,y5⟩ (fun hHeld2=>?_)
  clear hK K hp hk5 hb5 hx2 hr2 hm2 hs2 i1 i2 i3 i4 i5 i6 i7 i8 zd yd
  refine pput ?_
  have HMV:=hid ((Mv.same HWd.out HX.out.lt).comp (fun _ f=>f.elim) HM2.out (fun i hi=>by rcases HS2.out i hi with e | e <;> exact Tags.on_of e (fun h=>by cases h)))
  by_cases a0:ae=0
  ·have da:(ae != 0)=false:=by simp [a0]
   have HA0:=hid a0
   clear a0
   refine tk 13 ?_
   refine tk 14 ?_
   refine wpAnyH_done (by kernel_rfl) ?_ _
   go_upto_region 5 with fail
   have z5:w5.cell? ⟨x.rb,0,none⟩=some (.pointer (some ⟨x.lb,0,none⟩)):=by
    have:=HR2.out.blk.at_ 0
    rw [HI.out.1,RA.cells,HI.out.2.1] at this
    exact this
   have y5:w5.cell? ⟨q,5,none⟩=some (.int .i64 mn):=HB5.out.at_ 5
   have HS2t:=hid (fun W (hk:Same w5 W)=>show Calls Tryz.prog 39 #[.pointer (some ⟨x.lb,0,none⟩)] W (fun e w'=>e=.returned (.int .i64 s2.st)∧w'=W) from by
    have:=state_any W x2.lb x2.r x2.A x2.c x2.s (HR2.out.line.same hk)
    rw [HI.out.2.1,HI.out.2.2.1] at this
    exact this.mono (fun _ _ h=>⟨h.1,h.2.symm⟩))
   have HAN:=hid (fun W (hk:Same w5 W)=>show Calls Tryz.prog 45 #[.pointer (some ⟨x.lb,0,none⟩)] W (CopyPost W s2.ans) from by
    have:=answers_any W x2.lb x2.r x2.A x2.c x2.s (HR2.out.line.same hk) (HR2.out.line.same hk) (by rw [HI.out.2.2.1];have:=HVL.out.n;omega)
    rw [HI.out.2.1,HI.out.2.2.1] at this
    exact this)
   unfold CopyPost at HAN
   have hlk:=(List.getElem?_eq_some_iff.1 HXX.out).1
   have HLK:=hid hlk
   have hans:=HVL.out.n
   clear hlk
   have HPUT:=hid (fun (W:World) (t:Int) (hpx:PX W T2 { p with R:=p.R.set k { x2 with last:=t } }) (hm:Mv w T W T2 (fun i=>T.on i)) (he:p.pt.ack k x.pt ⟨mk,mcall,md,mc,me,mn,mb⟩ now=p.pt.put k { x.pt with s:=s2,last:=t })=>show PP w T p.x p.lv (p.pt.ack k x.pt ⟨mk,mcall,md,mc,me,mn,mb⟩ now) W from by
    rw [he]
    refine PP.mk hpx rfl rfl ?_ hm (fun _ h=>h)
    have e9:({ x2 with last:=t }:RA).pt={ x.pt with s:=s2,last:=t }:=by simp only [RA.pt,HI.out.2.2.1,HI.out.2.2.2.1,HI.out.2.2.2.2.1]
    simp [PS.pt,XS.put,List.map_set,e9])
   by_cases s3:s2.st=3
   ·have d3:(s2.st != 3)=false:=by simp [s3]
    have HS:=hid (show p.pt.ack k x.pt ⟨mk,mcall,md,mc,me,mn,mb⟩ now=p.pt.put k { x.pt with s:=s2,last:=x.last } from by rw [HAK.out,if_pos ⟨HE0.out,HA0.out⟩,if_neg (fun h=>h.1 s3)])
    clear s3
    go_quiet ((go_at_call 39;refine Calls.quiet_of_same (HS2t.out _ ((Keep.refl _ _).drewN _))))
    go_wp2_with fail
    go_end0
    refine ⟨rfl,HPUT.out _ x.last ?_ (HMV.out.trans (Mv.same ((Keep.refl _ _).drewN _) HX2.out.lt) (fun _ _ f=>f.elim)) HS.out⟩
    have e9:({ x2 with last:=x.last }:RA)=x2:=by rw [←HI.out.2.2.2.2.2]
    rw [e9]
    exact HX2.out.same ((Keep.refl _ _).drewN _)
   ·have d3:(s2.st != 3)=true:=by simpa using s3
    refine wp_region_held_drew (S:=fun W=>W.cell? ⟨x.rb,0,none⟩=some (.pointer (some ⟨x.lb,0,none⟩))∧W.cell? ⟨q,5,none⟩=some (.int .i64 mn)) (by kernel_rfl) ⟨z5,y5⟩ (fun hHeld=>?_)
    refine tk 0 ?_
    refine tk 1 ?_
    refine tk 2 ?_
    refine tk 3 ?_
    have HKd:=hid ((Keep.refl (fun _=>False) w5).drew)
    clear hHeld z5 y5
    generalize w5.drew=wd at *
    have HSd:=hid (HS2t.out _ HKd.out)
    have hrd:=HR2.out.blk.keep HKd.out (fun f=>f)
    have hbd:=HB5.out.keep HKd.out (fun f=>f)
    have zd:wd.cell? ⟨x.rb,0,none⟩=some (.pointer (some ⟨x.lb,0,none⟩)):=by
     have:=hrd.at_ 0
     rw [HI.out.1,RA.cells,HI.out.2.1] at this
     exact this
    have yd:wd.cell? ⟨q,5,none⟩=some (.int .i64 mn):=hbd.at_ 5
    have HRD9:=hid hrd
    have HBD9:=hid hbd
    clear hrd hbd
    refine rd1 4 (fun K hK=>?_)
    go_simp
    (with_reducible refine HSd.out.mono ?_)
    rintro e1 wu ⟨rfl,hwu⟩
    subst hwu
    refine hK.out _ _ ⟨zd,yd⟩ (fun hHeld1=>?_)
    clear hK K
    refine pput ?_
    refine tk 5 ?_
    refine tk 6 ?_
    refine tk 7 ?_
    refine tk 8 ?_
    refine tk 9 ?_
    refine tk 10 ?_
    refine tk 11 ?_
    refine tk 12 ?_
    refine rd1 13 (fun K hK=>?_)
    go_simp
    (with_reducible refine (HAN.out _ HKd.out).mono ?_)
    rintro e1 w6 ⟨B6,c6,rfl,_,hk6⟩
    have HK6:=hid (HKd.out.then hk6)
    have z6:w6.cell? ⟨x.rb,0,none⟩=some (.pointer (some ⟨x.lb,0,none⟩)):=by
     have:=(HRD9.out.keep hk6 (fun f=>f)).at_ 0
     rw [HI.out.1,RA.cells,HI.out.2.1] at this
     exact this
    have y6:w6.cell? ⟨q,5,none⟩=some (.int .i64 mn):=(HBD9.out.keep hk6 (fun f=>f)).at_ 5
    refine hK.out _ _ ⟨z6,y6⟩ (fun hHeld2=>?_)
    clear hK K hk6 zd yd
    refine pput ?_
    have HX6:=hid (HX2.out.same HK6.out)
    have HM6:=hid (HMV.out.trans (Mv.same HK6.out HX2.out.lt) (fun _ _ f=>f.elim))
    by_cases sn:mn=(s2.ans.length:Int)
    ·have dn:(mn == (s2.ans.length:Int))=true:=by simp [sn]
     have HS:=hid (show p.pt.ack k x.pt ⟨mk,mcall,md,mc,me,mn,mb⟩ now=p.pt.put k { x.pt with s:=s2,last:=max x.last now } from by rw [HAK.out,if_pos ⟨HE0.out,HA0.out⟩,if_pos ⟨s3,sn⟩])
     clear s3 sn
     refine tk 14 ?_
     refine tk 15 ?_
     refine tk 16 ?_
     refine wpAnyH_done (by kernel_rfl) ?_ _
     have hct:=HX6.out.contact (k:=k) (x:=x2) (by rw [List.getElem?_set_self HLK.out]) (max x.last now)
     rw [HI.out.1] at hct
     have HCT:=hid hct
     have hb6:=(HX6.out.recs k x2 (by rw [List.getElem?_set_self HLK.out])).blk
     rw [HI.out.1] at hb6
     have z3:w6.cell? ⟨x.rb,3,none⟩=some (.int .i64 x.last):=by
      have:=hb6.at_ 3
      rw [RA.cells,HI.out.2.2.2.2.2] at this
      exact this
     have f3:=hb6.free 3
     have HTB:=hid (HR2.out.tb)
     clear hct hb6
     go_wp2_with fail
     ·have e9:max x.last now=now:=by omega
      have HE9:=hid e9
      rw [e9] at HCT HS
      clear e9
      go_end0
      refine ⟨rfl,HPUT.out _ now ?_ (HM6.out.comp (fun _ h=>h) HCT.out.2 (fun i hi=>by rw [show i=x.rb from hi,←HI.out.1];exact Tags.on_of HTB.out (fun h=>by cases h))) HS.out⟩
      have:=HCT.out.1
      simp only [List.set_set] at this
      rw [HI.out.1]
      exact this
     ·have e9:max x.last now=x.last:=by omega
      have HE9:=hid e9
      rw [e9] at HCT HS
      clear e9
      go_end0
      refine ⟨rfl,HPUT.out _ x.last ?_ (HM6.out.comp (fun _ h=>h) HCT.out.2 (fun i hi=>by rw [show i=x.rb from hi,←HI.out.1];exact Tags.on_of HTB.out (fun h=>by cases h))) HS.out⟩
      have:=HCT.out.1
      simp only [List.set_set] at this
      rw [HI.out.1]
      exact this
    ·have dn:(mn == (s2.ans.length:Int))=false:=by simpa using sn
     have HS:=hid (show p.pt.ack k x.pt ⟨mk,mcall,md,mc,me,mn,mb⟩ now=p.pt.put k { x.pt with s:=s2,last:=x.last } from by rw [HAK.out,if_pos ⟨HE0.out,HA0.out⟩,if_neg (fun h=>sn h.2)])
     clear s3 sn
     refine tk 14 ?_
     refine tk 15 ?_
     refine tk 16 ?_
     refine wpAnyH_done (by kernel_rfl) ?_ _
     go_wp2_with fail
     go_end0
     refine ⟨rfl,HPUT.out _ x.last ?_ HM6.out HS.out⟩
     have e9:({ x2 with last:=x.last }:RA)=x2:=by rw [←HI.out.2.2.2.2.2]
     rw [e9]
     exact HX6.out
  ·have da:(ae != 0)=true:=by simpa using a0
   have HS:=hid (show p.pt.ack k x.pt ⟨mk,mcall,md,mc,me,mn,mb⟩ now=p.pt from by rw [HAK.out,if_neg (fun h=>a0 h.2)])
   have HU:=hid (HU.out a0)
   clear a0
   refine tk 13 ?_
   refine tk 14 ?_
   refine wpAnyH_done (by kernel_rfl) ?_ _
   go_wp2_with fail
   go_end0
   refine ⟨rfl,?_⟩
   rw [HS.out]
   refine PP.mk HX2.out rfl rfl (pt_set HXX.out ?_) HMV.out (fun _ h=>h)
   simp only [RA.pt,HI.out.2.2.1,HI.out.2.2.2.1,HI.out.2.2.2.2.1,HI.out.2.2.2.2.2,HU.out]
 ·have d0:(er != 0)=true:=by simpa using e0
  have HS:=hid (show p.pt.ack k x.pt ⟨mk,mcall,md,mc,me,mn,mb⟩ now=p.pt from by rw [HAK.out,if_neg (fun h=>e0 h.1)])
  clear e0
  go_quiet ((go_at_call 50;refine Calls.quiet_of_same (HFI.out _ ((Keep.refl _ _).drewN _))))
  go_wp2_with fail
  go_end0
  refine ⟨rfl,?_⟩
  rw [HS.out]
  exact PP.mk ((HX.out.same HW4.out).same ((Keep.refl _ _).drewN _)) rfl rfl rfl (Mv.same (HW4.out.then ((Keep.refl _ _).drewN _)) HX.out.lt) (fun _ f=>f.elim)
def XS.recv (X:XS) (f t:Int) (b:List UInt8) (now:Int):XS:=if vN now 0=true∧t=X.cen∧0≤f∧f<X.cen then (if errM b=0∧(rawM b).c=f then X.hear (rawM b) now else X) else X
theorem errM_vM {b:List UInt8} (h:errM b=0):vM (rawM b)=true:=by
 unfold errM at h
 split at h
 ·split at h
  ·assumption
  ·cases h
 ·rename_i h1;exact absurd h h1
theorem closeE_ok {s:CL} {e:Int} (h:VL s) (h5:¬s.st=5) (hc:0≤s.cen) (he:s.ep=e):closeE s e=0:=by
 have ho:=h.own
 unfold closeE
 have:vN e 1=true:=vN_mk (by omega) (by omega)
 rw [if_pos this,if_neg (by omega),if_neg h5]
set_option maxHeartbeats 8000000 in
set_option maxRecDepth 100000 in
theorem recvX {w:World} {T:Tags} {p:PS} (h:PX w T p) (hok:XOk p.pt) (hl:p.R.length≤1000) (hn:p.out.length≤900000) (hne:p.ev.length≤900000) (f t:Int) (A:Option Addr) (cap:Nat) (b:List UInt8) (hb:Sl w (fun i=>T i≠none) 1 A b.length (bcells b)) (hbl:b.length≤1000000) (now:Int) :
 Calls Tryz.prog 17 #[.pointer (some ⟨p.x,0,none⟩),.agg #[.int .i64 f,.int .i64 t,.slice A b.length cap],.int .i64 now] w (PPost w T p.x p.lv (p.pt.recv f t b now) (.tuple #[])):=by
 have HX:=hid h
 have hk1:=(Keep.refl (fun _=>False) w).alloc (.cells #[.int .i64 f,.int .i64 t,.slice A b.length cap] 56)
 have HK1:=hid hk1
 have HB1:=hid (Blk.made w 56 #[.int .i64 f,.int .i64 t,.slice A b.length cap])
 have c0:(w.alloc (.cells #[.int .i64 f,.int .i64 t,.slice A b.length cap] 56)).cell? ⟨p.x,0,none⟩=some (.int .i64 p.cen):=((h.hdr.keep hk1 (fun f=>f)).at_ 0).trans rfl
 have HDE:=hid (fun W (hk:Same w W)=>decode_any W A b.length cap b ((hb.wide (Av':=fun _=>False) (fun _ _ f=>f.elim)).same hk) hbl)
 have HOK:=hid hok
 have hpl:=h.hdr.lt
 have HVT:=hid (fun W=>show Calls Tryz.prog 36 #[.int .i64 now] W (fun e w'=>e=.returned (.bool (vN now 0))∧w'=W) from (vtick_any W now).mono (fun _ _ h=>⟨h.1,h.2.symm⟩))
 have HSAME:=hid (fun (W:World) (hk:Same w W)=>(PP.mk (h.same hk) rfl rfl rfl (Mv.same hk h.lt) (fun _ f=>f.elim):PP w T p.x p.lv p.pt W))
 unfold DecP at HDE
 clear h hok hb hk1
 have HRV:=hid (show p.pt.recv f t b now=if vN now 0=true∧t=p.cen∧0≤f∧f<p.cen then (if errM b=0∧(rawM b).c=f then p.pt.hear (rawM b) now else p.pt) else p.pt from rfl)
 cases hv:vN now 0 with
 | false =>
   have HS:=hid (show p.pt.recv f t b now=p.pt from by rw [HRV.out,if_neg (by rw [hv];simp)])
   go_enter Tryz.func17,Tryz.ntmps17
   go_upto_region 1 with fail
   go_quiet ((go_at_call 36;refine Calls.quiet_of_same ((HVT.out _).mono (fun _ _ h=>by rw [hv] at h;exact h))))
   go_wp2_with fail
   go_end0
   exact ⟨rfl,by rw [HS.out];exact HSAME.out _ (HK1.out.then ((Keep.refl _ _).drewN _))⟩
 | true =>
   by_cases g1:t=p.cen
   ·by_cases g2:f<0
    ·have d1:(t != p.cen)=false:=by simp [g1]
     have d2:decide (f<0)=true:=decide_eq_true g2
     have HS:=hid (show p.pt.recv f t b now=p.pt from by rw [HRV.out,if_neg (fun h=>by omega)])
     clear g1
     go_enter Tryz.func17,Tryz.ntmps17
     go_upto_region 1 with fail
     go_quiet ((go_at_call 36;refine Calls.quiet_of_same ((HVT.out _).mono (fun _ _ h=>by rw [hv] at h;exact h))))
     go_wp2_with fail
     go_end0
     exact ⟨rfl,by rw [HS.out];exact HSAME.out _ (HK1.out.then ((Keep.refl _ _).drewN _))⟩
    ·by_cases g3:p.cen≤f
     ·have d1:(t != p.cen)=false:=by simp [g1]
      have d2:decide (f<0)=false:=decide_eq_false g2
      have d3:decide (p.cen≤f)=true:=decide_eq_true g3
      have HS:=hid (show p.pt.recv f t b now=p.pt from by rw [HRV.out,if_neg (fun h=>by omega)])
      clear g1
      go_enter Tryz.func17,Tryz.ntmps17
      go_upto_region 1 with fail
      go_quiet ((go_at_call 36;refine Calls.quiet_of_same ((HVT.out _).mono (fun _ _ h=>by rw [hv] at h;exact h))))
      go_wp2_with fail
      go_end0
      exact ⟨rfl,by rw [HS.out];exact HSAME.out _ (HK1.out.then ((Keep.refl _ _).drewN _))⟩
     ·obtain ⟨mm,hmm⟩:∃ m,m=rawM b:=⟨_,rfl⟩
      have HIN:=hid (show p.pt.recv f t b now=if errM b=0∧mm.c=f then p.pt.hear mm now else p.pt from by rw [HRV.out,if_pos ⟨hv,g1,by omega,by omega⟩,hmm])
      have HVM:=hid (fun (h:errM b=0)=>show vM mm=true from by rw [hmm];exact errM_vM h)
      rw [←hmm] at HDE
      have HF:=hid (And.intro g2 g3)
      clear hmm
      obtain ⟨mk,mcall,md,mc,me,mn,mb⟩:=mm
      simp only [Nt.cells] at HDE
      simp only at HIN
      have d1:(t != p.cen)=false:=by simp [g1]
      have d2:decide (f<0)=false:=decide_eq_false g2
      have d3:decide (p.cen≤f)=false:=decide_eq_false g3
      clear g1 g2 g3
      go_enter Tryz.func17,Tryz.ntmps17
      go_upto_region 1 with fail
      go_quiet ((go_at_call 36;refine Calls.quiet_of_same ((HVT.out _).mono (fun _ _ h=>by rw [hv] at h;exact h))))
      by_cases he:errM b=0
      ·have HE:=hid he
       have hvm:=HVM.out he
       go_upto_region 3 with (go_at_call 23;(with_reducible refine (HDE.out _ (HK1.out.then ((Keep.refl _ _).drewN _))).mono ?_);rintro e1 w2 ⟨hk2,hok2,_⟩;obtain ⟨B,c2,rfl,hs2⟩:=hok2 HE.out;have HS2:=hid hs2;have HK2:=hid ((HK1.out.then ((Keep.refl _ _).drewN _)).then hk2);have HP2:=hid (HB1.out.keep (((Keep.refl (fun _=>False) _).drewN _).then hk2) (fun f=>f));clear hk2 hok2 hs2)
       have hbm:=Blk.made w2 66 #[.int .i64 mk,.int .i64 mcall,.int .i64 md,.int .i64 mc,.int .i64 me,.int .i64 mn,.slice B mb.length c2]
       have hk3:Same w (w2.alloc (.cells #[.int .i64 mk,.int .i64 mcall,.int .i64 md,.int .i64 mc,.int .i64 me,.int .i64 mn,.slice B mb.length c2] 66)):=HK2.out.alloc _
       have hs3:=HS2.out.keep (S:=fun _=>False) (w':=w2.alloc (.cells #[.int .i64 mk,.int .i64 mcall,.int .i64 md,.int .i64 mc,.int .i64 me,.int .i64 mn,.slice B mb.length c2] 66)) ((Keep.refl _ _).alloc _) (fun _ _ f=>f.elim)
       have hp3:=HP2.out.alloc (.cells #[.int .i64 mk,.int .i64 mcall,.int .i64 md,.int .i64 mc,.int .i64 me,.int .i64 mn,.slice B mb.length c2] 66)
       have hmq:w.heap.size≤w2.heap.size:=HK2.out.size
       have p0:(w2.alloc (.cells #[.int .i64 mk,.int .i64 mcall,.int .i64 md,.int .i64 mc,.int .i64 me,.int .i64 mn,.slice B mb.length c2] 66)).cell? ⟨w.heap.size,0,none⟩=some (.int .i64 f):=hp3.at_ 0
       generalize (w2.alloc (.cells #[.int .i64 mk,.int .i64 mcall,.int .i64 md,.int .i64 mc,.int .i64 me,.int .i64 mn,.slice B mb.length c2] 66))=w3 at *
       obtain ⟨q,hq⟩:∃ x,x=w2.heap.size:=⟨_,rfl⟩
       rw [←hq] at hbm hmq ⊢
       clear hq
       have HBM:=hid hbm
       have HK3:=hid hk3
       have HSB:=hid (hs3.wide (Av':=fun i=>T i≠none) (fun i _ hi=>Nat.lt_of_lt_of_le (HX.out.lt i hi) (by have h1:=HK1.out.size;rw [World.size_alloc] at h1;first | exact Nat.le_refl _ | exact Nat.le_trans HK1.out.size ((Keep.refl (fun _=>False) _).drewN _).size)))
       have y0:w3.cell? ⟨q,0,none⟩=some (.int .i64 mk):=hbm.at_ 0
       have y1:w3.cell? ⟨q,1,none⟩=some (.int .i64 mcall):=hbm.at_ 1
       have y2:w3.cell? ⟨q,2,none⟩=some (.int .i64 md):=hbm.at_ 2
       have y3:w3.cell? ⟨q,3,none⟩=some (.int .i64 mc):=hbm.at_ 3
       have y4:w3.cell? ⟨q,4,none⟩=some (.int .i64 me):=hbm.at_ 4
       have y5:w3.cell? ⟨q,5,none⟩=some (.int .i64 mn):=hbm.at_ 5
       have y6:w3.cell? ⟨q,6,none⟩=some (.slice B mb.length c2):=hbm.at_ 6
       clear hbm hk3 hs3 hp3 HS2 HK2 HP2 HDE c0
       have hmc0:mc=f→0≤mc:=fun e=>by have:=HF.out.1;omega
       have hmc1:mc=f→mc<p.cen:=fun e=>by have:=HF.out.2;omega
       by_cases gm:mc=f
       ·have dm:(mc != f)=false:=by simp [gm]
        have hmc0:=hmc0 gm
        have hmc1:=hmc1 gm
        have HHE:=hid (show p.pt.recv f t b now=p.pt.hear ⟨mk,mcall,md,mc,me,mn,mb⟩ now from by rw [HIN.out,if_pos ⟨HE.out,gm⟩])
        clear gm
        by_cases g8:mk=8
        ·have d8:(mk == 8)=true:=by simp [g8]
         have HS:=hid (show p.pt.recv f t b now=p.pt.claim ⟨mk,mcall,md,mc,me,mn,mb⟩ now from by rw [HHE.out];unfold XS.hear;rw [if_pos g8])
         have HCL:=hid (show Calls Tryz.prog 37 #[.pointer (some ⟨p.x,0,none⟩),.agg #[.int .i64 mk,.int .i64 mcall,.int .i64 md,.int .i64 mc,.int .i64 me,.int .i64 mn,.slice B mb.length c2],.int .i64 now] w3 (PPost w3 T p.x p.lv (p.pt.claim ⟨mk,mcall,md,mc,me,mn,mb⟩ now) (.tuple #[])) from claimX (HX.out.same HK3.out) HOK.out hl hn hne ⟨mk,mcall,md,mc,me,mn,mb⟩ B c2 hvm ⟨hmc0,hmc1⟩ now hv)
         clear g8
         go_wp2_with (go_at_call 37;(with_reducible refine HCL.out.mono ?_);rintro e1 w4 ⟨rfl,hP⟩;have HP:=hid hP;clear hP)
         go_end0
         exact ⟨rfl,by rw [HS.out];exact PP.after (Mv.same HK3.out HX.out.lt) (fun _ f=>f.elim) HP.out⟩
        ·have d8:(mk == 8)=false:=by simpa using g8
         cases hi:idx p.R.length mcall with
         | none =>
           have HS:=hid (show p.pt.recv f t b now=p.pt from by rw [HHE.out];unfold XS.hear;rw [if_neg g8,PS.pt_len,hi])
           have HFN:=hid (find_none (HX.out.same HK3.out) (idx_none hi) (by omega))
           clear g8 hi
           go_wp2_with (go_at_call 38;(with_reducible refine HFN.out.mono ?_);rintro e1 w4 ⟨rfl,rfl⟩)
           go_end0
           exact ⟨rfl,by rw [HS.out];first | exact HSAME.out _ HK3.out | exact HSAME.out _ (HK3.out.then ((Keep.refl _ _).drewN _))⟩
         | some k =>
           obtain ⟨h1,h2⟩:=idx_some hi
           obtain ⟨x,hx⟩:=get_some h2
           have HXX:=hid hx
           have hX3:=HX.out.same HK3.out
           have HFN:=hid (find_some hX3 hx h1 (by omega))
           have HLO:=hid (HOK.out.at_ hx).1
           have hr:=HX.out.recs k x hx
           have HR:=hid hr
           have hr3:=hX3.recs k x hx
           have z0:w3.cell? ⟨x.rb,0,none⟩=some (.pointer (some ⟨x.lb,0,none⟩)):=(hr3.blk.at_ 0).trans rfl
           have HST:=hid (fun W (hk:Same w3 W)=>show Calls Tryz.prog 39 #[.pointer (some ⟨x.lb,0,none⟩)] W (fun e w'=>e=.returned (.int .i64 x.s.st)∧w'=W) from (state_any W x.lb x.r x.A x.c x.s (hr3.line.same hk)).mono (fun _ _ h=>⟨h.1,h.2.symm⟩))
           have HOW:=hid (fun W (hk:Same w3 W)=>owner_any W x.lb x.r x.A x.c x.s (hr3.line.same hk))
           have HL:=hid (show p.pt.recv f t b now=if x.s.st=5∨x.s.cen≠mc∨x.s.ep≠me then p.pt else
            if mk=5 then p.pt.ack k x.pt ⟨mk,mcall,md,mc,me,mn,mb⟩ now else if mk=7 then p.pt.put k { x.pt with s:=backS x.s me } else
            if mk=6 then (p.pt.put k { x.pt with s:=closeS x.s me }).evt ⟨6,now,mc,mcall,me,0⟩ else p.pt from by
             rw [HHE.out];unfold XS.hear;rw [if_neg g8,PS.pt_len];simp only [hi];simp only [PS.pt_at hx];rfl)
           have HMQ:=hid hmq
           have HNQ:=hid (show q≠x.lb∧¬some q=x.r∧q≠p.x∧q≠x.rb from by
            have a1:=hr.line.top.lt
            have a2:=hr.blk.lt
            refine ⟨by omega,fun e=>?_,by omega,by omega⟩
            have:=hr.line.lt q e.symm
            omega)
           clear g8 hi hx h1 h2 hX3 hr hr3
           by_cases s5:x.s.st=5
           ·have t5:(x.s.st == 5)=true:=by simp [s5]
            have HS:=hid (show p.pt.recv f t b now=p.pt from by rw [HL.out,if_pos (.inl s5)])
            clear s5
            go_wp2_with (first | (go_at_call 38;(with_reducible refine HFN.out.mono ?_);rintro e1 w4 ⟨rfl,rfl⟩) | (go_at_call 39;(with_reducible refine (HST.out _ (by first | exact Keep.refl _ _ | exact (Keep.refl _ _).drewN _)).mono ?_);rintro e1 w4 ⟨rfl,hw4⟩;subst hw4))
            go_end0
            exact ⟨rfl,by rw [HS.out];first | exact HSAME.out _ HK3.out | exact HSAME.out _ (HK3.out.then ((Keep.refl _ _).drewN _))⟩
           ·have t5:(x.s.st == 5)=false:=by simpa using s5
            by_cases sc:x.s.cen=mc
            ·have tc:(x.s.cen != mc)=false:=by simp [sc]
             by_cases se:x.s.ep=me
             ·have te:(x.s.ep != me)=false:=by simp [se]
              have HL:=hid (show p.pt.recv f t b now=if mk=5 then p.pt.ack k x.pt ⟨mk,mcall,md,mc,me,mn,mb⟩ now else if mk=7 then p.pt.put k { x.pt with s:=backS x.s me } else if mk=6 then (p.pt.put k { x.pt with s:=closeS x.s me }).evt ⟨6,now,mc,mcall,me,0⟩ else p.pt from by rw [HL.out,if_neg (fun h=>by rcases h with h | h | h;exact s5 h;exact h sc;exact h se)])
              have HCE:=hid (closeE_ok HLO.out.vl s5 (show 0≤x.s.cen by omega) se)
              have HEP:=hid se
              clear s5 sc se
              go_upto_region 9 with (first | (go_at_call 38;(with_reducible refine HFN.out.mono ?_);rintro e1 w4 ⟨rfl,rfl⟩) | (go_at_call 39;(with_reducible refine (HST.out _ (by first | exact Keep.refl _ _ | exact (Keep.refl _ _).drewN _)).mono ?_);rintro e1 w4 ⟨rfl,hw4⟩;subst hw4) | (go_at_call 40;(with_reducible refine (HOW.out _ (by first | exact Keep.refl _ _ | exact (Keep.refl _ _).drewN _)).mono ?_);rintro e1 w5 ⟨rfl,hk5⟩;have HK5:=hid hk5;clear hk5))
              have HK3s:=hid (HK3.out.then HK5.out)
              have hb5:=HBM.out.keep HK5.out (fun f=>f)
              have HSB5:=hid (HSB.out.same HK5.out)
              have z5:w5.cell? ⟨x.rb,0,none⟩=some (.pointer (some ⟨x.lb,0,none⟩)):=((HR.out.blk.keep HK3s.out (fun f=>f)).at_ 0).trans rfl
              have q0:w5.cell? ⟨q,0,none⟩=some (.int .i64 mk):=hb5.at_ 0
              have q1:w5.cell? ⟨q,1,none⟩=some (.int .i64 mcall):=hb5.at_ 1
              have q2:w5.cell? ⟨q,2,none⟩=some (.int .i64 md):=hb5.at_ 2
              have q3:w5.cell? ⟨q,3,none⟩=some (.int .i64 mc):=hb5.at_ 3
              have q4:w5.cell? ⟨q,4,none⟩=some (.int .i64 me):=hb5.at_ 4
              have q5:w5.cell? ⟨q,5,none⟩=some (.int .i64 mn):=hb5.at_ 5
              have q6:w5.cell? ⟨q,6,none⟩=some (.slice B mb.length c2):=hb5.at_ 6
              have HB5:=hid hb5
              clear hb5 z0 y0 y1 y2 y3 y4 y5 y6 p0 HBM HSB HFN HST HOW HK5
              by_cases m5:mk=5
              ·have d5:(mk == 5)=true:=by simp [m5]
               have HS:=hid (show p.pt.recv f t b now=p.pt.ack k x.pt ⟨mk,mcall,md,mc,me,mn,mb⟩ now from by rw [HL.out,if_pos m5])
               have HAK:=hid (show Calls Tryz.prog 41 #[.pointer (some ⟨x.rb,0,none⟩),.agg #[.int .i64 mk,.int .i64 mcall,.int .i64 md,.int .i64 mc,.int .i64 me,.int .i64 mn,.slice B mb.length c2],.int .i64 now] w5 (PPost w5 T p.x p.lv (p.pt.ack k x.pt ⟨mk,mcall,md,mc,me,mn,mb⟩ now) (.tuple #[])) from ackX (HX.out.same HK3s.out) HXX.out HLO.out ⟨mk,mcall,md,mc,me,mn,mb⟩ B c2 hvm HSB5.out now)
               clear m5
               go_wp2_with (go_at_call 41;(with_reducible refine HAK.out.mono ?_);rintro e1 w6 ⟨rfl,hP⟩;have HP:=hid hP;clear hP)
               go_end0
               exact ⟨rfl,by rw [HS.out];exact PP.after (Mv.same HK3s.out HX.out.lt) (fun _ f=>f.elim) HP.out⟩
              ·have d5:(mk == 5)=false:=by simpa using m5
               by_cases m7:mk=7
               ·have d7:(mk == 7)=true:=by simp [m7]
                have HS:=hid (show p.pt.recv f t b now=p.pt.put k { x.pt with s:=backS x.s me } from by rw [HL.out,if_neg m5,if_pos m7])
                have HBA:=hid (fun W (hk:Same w5 W)=>back_any W x.lb x.r x.A x.c x.s ((HR.out.line.same HK3s.out).same hk) me)
                clear m5 m7
                go_upto_region 14 with fail
                refine wp_region_held_drew (S:=fun W=>W.cell? ⟨x.rb,0,none⟩=some (.pointer (some ⟨x.lb,0,none⟩))∧W.cell? ⟨q,4,none⟩=some (.int .i64 me)) (by kernel_rfl) ⟨z5,q4⟩ (fun hHeld=>?_)
                refine tk 0 ?_
                refine tk 1 ?_
                refine tk 2 ?_
                refine tk 3 ?_
                refine tk 4 ?_
                refine tk 5 ?_
                have HKd:=hid ((Keep.refl (fun _=>False) w5).drew)
                clear hHeld z5 q0 q1 q2 q3 q4 q5 q6
                generalize w5.drew=wd at *
                refine rd1 6 (fun K hK=>?_)
                go_simp
                (with_reducible refine (HBA.out _ HKd.out).mono ?_)
                rintro e1 w6 hp
                have hk6:Keep (fun i=>i=x.lb∨some i=x.r) wd w6:=by
                 obtain ⟨_,_,_,_,_,hk,_⟩:=hp
                 exact hk
                obtain ⟨rfl,x2,T2,S2,i1,i2,i3,i4,i5,i6,i7,i8,hx2,hm2,hs2⟩:=(HX.out.same (HK3s.out.then HKd.out)).lop HXX.out hp
                have hb6:=(HB5.out.keep HKd.out (fun f=>f)).keep hk6 (fun hs=>by rcases hs with hs | hs;exact HNQ.out.1 hs;exact HNQ.out.2.1 hs)
                have hlk:=(List.getElem?_eq_some_iff.1 HXX.out).1
                have hr2:=hx2.recs k x2 (by rw [List.getElem?_set_self hlk])
                have HX2:=hid hx2
                have HM2:=hid hm2
                have HS2:=hid hs2
                have HI:=hid (And.intro i1 (And.intro i2 (And.intro i3 (And.intro i4 (And.intro i5 i6)))))
                have z6:w6.cell? ⟨x.rb,0,none⟩=some (.pointer (some ⟨x.lb,0,none⟩)):=by
                 have:=hr2.blk.at_ 0
                 rw [i1,RA.cells,i2] at this
                 exact this
                refine hK.out _ _ ⟨z6,hb6.at_ 4⟩ (fun hHeld2=>?_)
                clear hK K hp hk6 hx2 hr2 hm2 hs2 i1 i2 i3 i4 i5 i6 i7 i8 z6 hb6 hlk
                refine pput ?_
                refine wpAnyH_done (by kernel_rfl) ?_ _
                have HMV:=hid ((Mv.same (HK3s.out.then HKd.out) HX.out.lt).comp (fun _ f=>f.elim) HM2.out (fun i hi=>by rcases HS2.out i hi with e | e <;> exact Tags.on_of e (fun h=>by cases h)))
                go_wp2_with fail
                go_end0
                refine ⟨rfl,?_⟩
                rw [HS.out]
                refine PP.mk HX2.out rfl rfl ?_ HMV.out (fun _ h=>h)
                have hxp:x2.pt={ x.pt with s:=backS x.s me }:=by simp only [RA.pt,HI.out.2.2.1,HI.out.2.2.2.1,HI.out.2.2.2.2.1,HI.out.2.2.2.2.2]
                simp [PS.pt,XS.put,List.map_set,hxp]
               ·have d7:(mk == 7)=false:=by simpa using m7
                by_cases m6:mk=6
                ·have d6:(mk == 6)=true:=by simp [m6]
                 have HS:=hid (show p.pt.recv f t b now=(p.pt.put k { x.pt with s:=closeS x.s me }).evt ⟨6,now,mc,mcall,me,0⟩ from by rw [HL.out,if_neg m5,if_neg m7,if_pos m6])
                 have HCE:=hid (show closeE x.s me=0 from HCE.out)
                 have HCL:=hid (fun W (hk:Same w5 W)=>close_any W x.lb x.r x.A x.c x.s ((HR.out.line.same HK3s.out).same hk) me)
                 rw [HCE.out] at HCL
                 clear m5 m7 m6
                 go_upto_region 16 with fail
                 refine wp_region_held_drew (S:=fun W=>W.cell? ⟨x.rb,0,none⟩=some (.pointer (some ⟨x.lb,0,none⟩))∧W.cell? ⟨q,4,none⟩=some (.int .i64 me)) (by kernel_rfl) ⟨z5,q4⟩ (fun hHeld=>?_)
                 refine tk 0 ?_
                 refine tk 1 ?_
                 refine tk 2 ?_
                 refine tk 3 ?_
                 refine tk 4 ?_
                 refine tk 5 ?_
                 have HKd:=hid ((Keep.refl (fun _=>False) w5).drew)
                 clear hHeld z5 q0 q1 q2 q3 q4 q5 q6
                 generalize w5.drew=wd at *
                 refine rd1 6 (fun K hK=>?_)
                 go_simp
                 (with_reducible refine (HCL.out _ HKd.out).mono ?_)
                 rintro e1 w6 hp
                 have hk6:Keep (fun i=>i=x.lb∨some i=x.r) wd w6:=by
                  obtain ⟨_,_,_,_,_,hk,_⟩:=hp
                  exact hk
                 obtain ⟨rfl,x2,T2,S2,i1,i2,i3,i4,i5,i6,i7,i8,hx2,hm2,hs2⟩:=(HX.out.same (HK3s.out.then HKd.out)).lop HXX.out hp
                 have hb6:=(HB5.out.keep HKd.out (fun f=>f)).keep hk6 (fun hs=>by rcases hs with hs | hs;exact HNQ.out.1 hs;exact HNQ.out.2.1 hs)
                 have hlk:=(List.getElem?_eq_some_iff.1 HXX.out).1
                 have hr2:=hx2.recs k x2 (by rw [List.getElem?_set_self hlk])
                 have HX2:=hid hx2
                 have HM2:=hid hm2
                 have HS2:=hid hs2
                 have HB6:=hid hb6
                 have HI:=hid (And.intro i1 (And.intro i2 (And.intro i3 (And.intro i4 (And.intro i5 i6)))))
                 have z6:w6.cell? ⟨x.rb,0,none⟩=some (.pointer (some ⟨x.lb,0,none⟩)):=by
                  have:=hr2.blk.at_ 0
                  rw [i1,RA.cells,i2] at this
                  exact this
                 refine hK.out _ _ ⟨z6,hb6.at_ 4⟩ (fun hHeld2=>?_)
                 clear hK K hp hk6 hx2 hr2 hm2 hs2 i1 i2 i3 i4 i5 i6 i7 i8 z6 hb6 hlk
                 refine pput ?_
                 refine tk 7 ?_
                 refine wpAnyH_done (by kernel_rfl) ?_ _
                 have HMV:=hid ((Mv.same (HK3s.out.then HKd.out) HX.out.lt).comp (fun _ f=>f.elim) HM2.out (fun i hi=>by rcases HS2.out i hi with e | e <;> exact Tags.on_of e (fun h=>by cases h)))
                 have HNE:=hid (fun (hj:p.evv.ownBlock=some q)=>show False from by have:=HX.out.ev.lt q hj;have:=HMQ.out;omega)
                 have HXP:=hid (show x2.pt={ x.pt with s:=closeS x.s me } from by simp only [RA.pt,HI.out.2.2.1,HI.out.2.2.2.1,HI.out.2.2.2.2.1,HI.out.2.2.2.2.2])
                 clear HCL HB5 HKd
                 go_upto_region 17 with fail
                 refine wp_region_held_drew (S:=fun W=>W.cell? ⟨q,1,none⟩=some (.int .i64 mcall)∧W.cell? ⟨q,3,none⟩=some (.int .i64 mc)∧W.cell? ⟨q,4,none⟩=some (.int .i64 me)) (by kernel_rfl) ⟨((HB6.out.keep (Keep.refl (fun _=>False) _) (fun f=>f)).at_ 1).trans rfl,((HB6.out.keep (Keep.refl (fun _=>False) _) (fun f=>f)).at_ 3).trans rfl,((HB6.out.keep (Keep.refl (fun _=>False) _) (fun f=>f)).at_ 4).trans rfl⟩ (fun hHeld=>?_)
                 refine tk 0 ?_
                 refine tk 1 ?_
                 refine tk 2 ?_
                 refine tk 3 ?_
                 refine tk 5 ?_
                 refine tk 6 ?_
                 refine tk 7 ?_
                 refine tk 8 ?_
                 refine tk 9 ?_
                 refine tk 10 ?_
                 refine tk 11 ?_
                 refine tk 12 ?_
                 have HXd:=hid (HX2.out.same (Keep.refl (fun _=>False) _).drew)
                 clear hHeld
                 generalize hwd:w6.drew=wd at *
                 have HKwd:=hid (show Same w6 wd from by rw [←hwd];exact (Keep.refl _ _).drew)
                 clear hwd
                 apply one_restX (F:=fun _ _ _ W=>∃ (v:Value) (T3:Tags) (S3:Nat→Prop),PX W T3 { p with R:=p.R.set k x2,ev:=p.ev++[(⟨6,now,mc,mcall,me,0⟩:Ev)],evv:=v }∧Mv w6 T2 W T3 S3∧∀ i,S3 i→T2 i=some .ev∨T2 i=some .hdr)
                 case main =>
                  intro REST
                  refine wpAnyH_ready (rs:=[4,13]) (by kernel_rfl) (by simp) ?_
                  refine AllReadyH.cons rfl (fun K hK=>?_) (AllReadyH.cons rfl (fun K hK=>?_) AllReadyH.nil)
                  ·have e21:wd.cell? ⟨p.x,6,none⟩=some (p.evv):=(HXd.out.hdr.at_ 6).trans rfl
                   go_simp
                   clear e21
                   refine hK.out _ _ ⟨((HB6.out.keep HKwd.out (fun f=>f)).at_ 1).trans rfl,((HB6.out.keep HKwd.out (fun f=>f)).at_ 3).trans rfl,((HB6.out.keep HKwd.out (fun f=>f)).at_ 4).trans rfl⟩ (fun hHeld21=>?_)
                   clear hK K
                   refine pput ?_
                   refine rd1 13 (fun K hK=>?_)
                   go_simp
                   have hb22:=Blk.made wd 104 #[.int .i64 6,.int .i64 now,.int .i64 mc,.int .i64 mcall,.int .i64 me,.int .i64 0,.int .i64 0,.int .i64 0,.slice none 0 0,.int .i64 0,.int .i64 0,.int .i64 0,.int .i64 0,.int .i64 0,.int .i64 0,.int .i64 0,.int .i64 0,.int .i64 0,.int .i64 0,.int .i64 0,.int .i64 0,.int .i64 0,.int .i64 0,.int .i64 0,.int .i64 0,.slice none 0 0,.slice none 0 0,.slice none 0 0]
                   have hk22:Same wd (wd.alloc (.cells #[.int .i64 6,.int .i64 now,.int .i64 mc,.int .i64 mcall,.int .i64 me,.int .i64 0,.int .i64 0,.int .i64 0,.slice none 0 0,.int .i64 0,.int .i64 0,.int .i64 0,.int .i64 0,.int .i64 0,.int .i64 0,.int .i64 0,.int .i64 0,.int .i64 0,.int .i64 0,.int .i64 0,.int .i64 0,.int .i64 0,.int .i64 0,.int .i64 0,.int .i64 0,.slice none 0 0,.slice none 0 0,.slice none 0 0] 104)):=(Keep.refl _ _).alloc _
                   have HX22:=hid (HXd.out.same hk22)
                   obtain ⟨g22,hg22⟩:∃ g,g=wd.heap.size:=⟨_,rfl⟩
                   rw [←hg22] at hb22 ⊢
                   have HKd22:=hid hk22
                   clear hg22 hk22
                   generalize (wd.alloc (.cells #[.int .i64 6,.int .i64 now,.int .i64 mc,.int .i64 mcall,.int .i64 me,.int .i64 0,.int .i64 0,.int .i64 0,.slice none 0 0,.int .i64 0,.int .i64 0,.int .i64 0,.int .i64 0,.int .i64 0,.int .i64 0,.int .i64 0,.int .i64 0,.int .i64 0,.int .i64 0,.int .i64 0,.int .i64 0,.int .i64 0,.int .i64 0,.int .i64 0,.int .i64 0,.slice none 0 0,.slice none 0 0,.slice none 0 0] 104))=q22 at *
                   refine hK.out _ _ ⟨((HB6.out.keep (HKwd.out.then HKd22.out) (fun f=>f)).at_ 1).trans rfl,((HB6.out.keep (HKwd.out.then HKd22.out) (fun f=>f)).at_ 3).trans rfl,((HB6.out.keep (HKwd.out.then HKd22.out) (fun f=>f)).at_ 4).trans rfl⟩ (fun hHeld22=>?_)
                   clear hK K
                   refine pput ?_
                   refine rd1 14 (fun K hK=>?_)
                   refine EEv.step2 rfl (.tmp 122) (.tmp 131) rfl (p.evv) (some ⟨g22,0,none⟩) 1 1 rfl rfl 0 p.ev.length (p.ev.flatMap Ev.cells) (Ev.cells (⟨6,now,mc,mcall,me,0⟩:Ev)) (p.ev.length+1) ((p.ev++[(⟨6,now,mc,mcall,me,0⟩:Ev)]).flatMap Ev.cells) rfl (by rw [List.flatMap_append,List.flatMap_singleton]) (HX22.out.ev.own) rfl (fun _=>⟨_,rfl,src_blk hb22⟩) (ev_one _) (by omega) (by unfold maxLen;omega) (Nat.zero_le _) (by
                    intro A7 c7 w7 ho7 hg7 hw7
                    have hgr:=HX22.out.grow_ev hg7 ho7 (own_or hw7) (y:=(⟨6,now,mc,mcall,me,0⟩:Ev))
                    have HX7:=hid hgr.1
                    have HM7:=hid hgr.2
                    have hkq:Keep (fun j=>(p.evv).ownBlock=some j) q22 w7:=(Keep.refl _ _).grown hg7 (fun x e _=>e)
                    have hh7:=grow_hdr HX22.out HX22.out.ev hg7 (fun h=>by cases h)
                    have c4:w7.cell? ⟨p.x,6,none⟩=some (p.evv):=(hh7.at_ 6).trans rfl
                    have f4:=hh7.free 6
                    clear ho7 hg7 hw7 hgr
                    refine hK.out _ _ ⟨(((HB6.out.keep (HKwd.out.then HKd22.out) (fun f=>f)).keep hkq (fun e=>HNE.out e)).at_ 1).trans rfl,(((HB6.out.keep (HKwd.out.then HKd22.out) (fun f=>f)).keep hkq (fun e=>HNE.out e)).at_ 3).trans rfl,(((HB6.out.keep (HKwd.out.then HKd22.out) (fun f=>f)).keep hkq (fun e=>HNE.out e)).at_ 4).trans rfl⟩ (fun hHeld23=>?_)
                    clear hK K
                    refine pput ?_
                    refine tk 15 ?_
                    refine tk 16 ?_
                    refine rd1 17 (fun K hK=>?_)
                    go_simp
                    refine hK.out _ _ (let hp7:=(Keep.refl (· = p.x) w7).put 6 _;⟨((((HB6.out.keep (HKwd.out.then HKd22.out) (fun f=>f)).keep hkq (fun e=>HNE.out e)).keep hp7 (fun e=>HNQ.out.2.2.1 e)).at_ 1).trans rfl,((((HB6.out.keep (HKwd.out.then HKd22.out) (fun f=>f)).keep hkq (fun e=>HNE.out e)).keep hp7 (fun e=>HNQ.out.2.2.1 e)).at_ 3).trans rfl,((((HB6.out.keep (HKwd.out.then HKd22.out) (fun f=>f)).keep hkq (fun e=>HNE.out e)).keep hp7 (fun e=>HNQ.out.2.2.1 e)).at_ 4).trans rfl⟩) (fun hHeld23=>?_)
                    clear hK K
                    refine pput ?_
                    refine wpAnyH_done (by kernel_rfl) ?_ _
                    exact REST A7 c7 g22 _ ⟨_,_,_,HX7.out,((Mv.same (HKwd.out.then HKd22.out) HX2.out.lt).wide (fun _ f=>f.elim)).trans HM7.out (fun _ _ h=>h),grow_tags HX22.out HX22.out.ev⟩)
                  ·go_simp
                   have hb24:=Blk.made wd 104 #[.int .i64 6,.int .i64 now,.int .i64 mc,.int .i64 mcall,.int .i64 me,.int .i64 0,.int .i64 0,.int .i64 0,.slice none 0 0,.int .i64 0,.int .i64 0,.int .i64 0,.int .i64 0,.int .i64 0,.int .i64 0,.int .i64 0,.int .i64 0,.int .i64 0,.int .i64 0,.int .i64 0,.int .i64 0,.int .i64 0,.int .i64 0,.int .i64 0,.int .i64 0,.slice none 0 0,.slice none 0 0,.slice none 0 0]
                   have hk24:Same wd (wd.alloc (.cells #[.int .i64 6,.int .i64 now,.int .i64 mc,.int .i64 mcall,.int .i64 me,.int .i64 0,.int .i64 0,.int .i64 0,.slice none 0 0,.int .i64 0,.int .i64 0,.int .i64 0,.int .i64 0,.int .i64 0,.int .i64 0,.int .i64 0,.int .i64 0,.int .i64 0,.int .i64 0,.int .i64 0,.int .i64 0,.int .i64 0,.int .i64 0,.int .i64 0,.int .i64 0,.slice none 0 0,.slice none 0 0,.slice none 0 0] 104)):=(Keep.refl _ _).alloc _
                   have HX24:=hid (HXd.out.same hk24)
                   obtain ⟨g24,hg24⟩:∃ g,g=wd.heap.size:=⟨_,rfl⟩
                   rw [←hg24] at hb24 ⊢
                   have HKd24:=hid hk24
                   clear hg24 hk24
                   generalize (wd.alloc (.cells #[.int .i64 6,.int .i64 now,.int .i64 mc,.int .i64 mcall,.int .i64 me,.int .i64 0,.int .i64 0,.int .i64 0,.slice none 0 0,.int .i64 0,.int .i64 0,.int .i64 0,.int .i64 0,.int .i64 0,.int .i64 0,.int .i64 0,.int .i64 0,.int .i64 0,.int .i64 0,.int .i64 0,.int .i64 0,.int .i64 0,.int .i64 0,.int .i64 0,.int .i64 0,.slice none 0 0,.slice none 0 0,.slice none 0 0] 104))=q24 at *
                   refine hK.out _ _ ⟨((HB6.out.keep (HKwd.out.then HKd24.out) (fun f=>f)).at_ 1).trans rfl,((HB6.out.keep (HKwd.out.then HKd24.out) (fun f=>f)).at_ 3).trans rfl,((HB6.out.keep (HKwd.out.then HKd24.out) (fun f=>f)).at_ 4).trans rfl⟩ (fun hHeld24=>?_)
                   clear hK K
                   refine pput ?_
                   refine rd1 4 (fun K hK=>?_)
                   have e25:q24.cell? ⟨p.x,6,none⟩=some (p.evv):=(HX24.out.hdr.at_ 6).trans rfl
                   go_simp
                   clear e25
                   refine hK.out _ _ ⟨((HB6.out.keep (HKwd.out.then HKd24.out) (fun f=>f)).at_ 1).trans rfl,((HB6.out.keep (HKwd.out.then HKd24.out) (fun f=>f)).at_ 3).trans rfl,((HB6.out.keep (HKwd.out.then HKd24.out) (fun f=>f)).at_ 4).trans rfl⟩ (fun hHeld25=>?_)
                   clear hK K
                   refine pput ?_
                   refine rd1 14 (fun K hK=>?_)
                   refine EEv.step2 rfl (.tmp 122) (.tmp 131) rfl (p.evv) (some ⟨g24,0,none⟩) 1 1 rfl rfl 0 p.ev.length (p.ev.flatMap Ev.cells) (Ev.cells (⟨6,now,mc,mcall,me,0⟩:Ev)) (p.ev.length+1) ((p.ev++[(⟨6,now,mc,mcall,me,0⟩:Ev)]).flatMap Ev.cells) rfl (by rw [List.flatMap_append,List.flatMap_singleton]) (HX24.out.ev.own) rfl (fun _=>⟨_,rfl,src_blk hb24⟩) (ev_one _) (by omega) (by unfold maxLen;omega) (Nat.zero_le _) (by
                    intro A7 c7 w7 ho7 hg7 hw7
                    have hgr:=HX24.out.grow_ev hg7 ho7 (own_or hw7) (y:=(⟨6,now,mc,mcall,me,0⟩:Ev))
                    have HX7:=hid hgr.1
                    have HM7:=hid hgr.2
                    have hkq:Keep (fun j=>(p.evv).ownBlock=some j) q24 w7:=(Keep.refl _ _).grown hg7 (fun x e _=>e)
                    have hh7:=grow_hdr HX24.out HX24.out.ev hg7 (fun h=>by cases h)
                    have c4:w7.cell? ⟨p.x,6,none⟩=some (p.evv):=(hh7.at_ 6).trans rfl
                    have f4:=hh7.free 6
                    clear ho7 hg7 hw7 hgr
                    refine hK.out _ _ ⟨(((HB6.out.keep (HKwd.out.then HKd24.out) (fun f=>f)).keep hkq (fun e=>HNE.out e)).at_ 1).trans rfl,(((HB6.out.keep (HKwd.out.then HKd24.out) (fun f=>f)).keep hkq (fun e=>HNE.out e)).at_ 3).trans rfl,(((HB6.out.keep (HKwd.out.then HKd24.out) (fun f=>f)).keep hkq (fun e=>HNE.out e)).at_ 4).trans rfl⟩ (fun hHeld26=>?_)
                    clear hK K
                    refine pput ?_
                    refine tk 15 ?_
                    refine tk 16 ?_
                    refine rd1 17 (fun K hK=>?_)
                    go_simp
                    refine hK.out _ _ (let hp7:=(Keep.refl (· = p.x) w7).put 6 _;⟨((((HB6.out.keep (HKwd.out.then HKd24.out) (fun f=>f)).keep hkq (fun e=>HNE.out e)).keep hp7 (fun e=>HNQ.out.2.2.1 e)).at_ 1).trans rfl,((((HB6.out.keep (HKwd.out.then HKd24.out) (fun f=>f)).keep hkq (fun e=>HNE.out e)).keep hp7 (fun e=>HNQ.out.2.2.1 e)).at_ 3).trans rfl,((((HB6.out.keep (HKwd.out.then HKd24.out) (fun f=>f)).keep hkq (fun e=>HNE.out e)).keep hp7 (fun e=>HNQ.out.2.2.1 e)).at_ 4).trans rfl⟩) (fun hHeld26=>?_)
                    clear hK K
                    refine pput ?_
                    refine wpAnyH_done (by kernel_rfl) ?_ _
                    exact REST A7 c7 g24 _ ⟨_,_,_,HX7.out,((Mv.same (HKwd.out.then HKd24.out) HX2.out.lt).wide (fun _ f=>f.elim)).trans HM7.out (fun _ _ h=>h),grow_tags HX24.out HX24.out.ev⟩)
                 case rest =>
                  intro A7 c7 g7 v1 hF
                  obtain ⟨v9,T3,S3,hx3,hm3,ht3⟩:=hF
                  have HX3:=hid hx3
                  have HM3:=hid (HMV.out.comp (fun _ h=>h) hm3 (tags_on ht3 (fun h=>by cases h)))
                  clear hx3 hm3 ht3
                  go_wp2_with fail
                  go_end0
                  refine ⟨rfl,?_⟩
                  rw [HS.out]
                  refine PP.mk HX3.out rfl rfl ?_ HM3.out (fun _ h=>h)
                  simp [PS.pt,XS.put,XS.evt,List.map_set,HXP.out]
                ·have d6:(mk == 6)=false:=by simpa using m6
                 have HS:=hid (show p.pt.recv f t b now=p.pt from by rw [HL.out,if_neg m5,if_neg m7,if_neg m6])
                 clear m5 m7 m6
                 go_wp2_with fail
                 go_end0
                 exact ⟨rfl,by rw [HS.out];first | exact HSAME.out _ HK3s.out | exact HSAME.out _ (HK3s.out.then ((Keep.refl _ _).drewN _))⟩
             ·have te:(x.s.ep != me)=true:=by simpa using se
              have HS:=hid (show p.pt.recv f t b now=p.pt from by rw [HL.out,if_pos (.inr (.inr se))])
              clear s5 sc se
              go_upto_region 9 with (first | (go_at_call 38;(with_reducible refine HFN.out.mono ?_);rintro e1 w4 ⟨rfl,rfl⟩) | (go_at_call 39;(with_reducible refine (HST.out _ (by first | exact Keep.refl _ _ | exact (Keep.refl _ _).drewN _)).mono ?_);rintro e1 w4 ⟨rfl,hw4⟩;subst hw4) | (go_at_call 40;(with_reducible refine (HOW.out _ (by first | exact Keep.refl _ _ | exact (Keep.refl _ _).drewN _)).mono ?_);rintro e1 w5 ⟨rfl,hk5⟩;have HK5:=hid hk5;clear hk5))
              have y3:w5.cell? ⟨q,3,none⟩=some (.int .i64 mc):=(HBM.out.keep HK5.out (fun f=>f)).at_ 3
              have y4:w5.cell? ⟨q,4,none⟩=some (.int .i64 me):=(HBM.out.keep HK5.out (fun f=>f)).at_ 4
              go_wp2_with fail
              go_end0
              exact ⟨rfl,by rw [HS.out];first | exact HSAME.out _ (HK3.out.then HK5.out) | exact HSAME.out _ ((HK3.out.then HK5.out).then ((Keep.refl _ _).drewN _))⟩
            ·have tc:(x.s.cen != mc)=true:=by simpa using sc
             have HS:=hid (show p.pt.recv f t b now=p.pt from by rw [HL.out,if_pos (.inr (.inl sc))])
             clear s5 sc
             go_upto_region 9 with (first | (go_at_call 38;(with_reducible refine HFN.out.mono ?_);rintro e1 w4 ⟨rfl,rfl⟩) | (go_at_call 39;(with_reducible refine (HST.out _ (by first | exact Keep.refl _ _ | exact (Keep.refl _ _).drewN _)).mono ?_);rintro e1 w4 ⟨rfl,hw4⟩;subst hw4) | (go_at_call 40;(with_reducible refine (HOW.out _ (by first | exact Keep.refl _ _ | exact (Keep.refl _ _).drewN _)).mono ?_);rintro e1 w5 ⟨rfl,hk5⟩;have HK5:=hid hk5;clear hk5))
             have y3:w5.cell? ⟨q,3,none⟩=some (.int .i64 mc):=(HBM.out.keep HK5.out (fun f=>f)).at_ 3
             have y4:w5.cell? ⟨q,4,none⟩=some (.int .i64 me):=(HBM.out.keep HK5.out (fun f=>f)).at_ 4
             go_wp2_with fail
             go_end0
             exact ⟨rfl,by rw [HS.out];first | exact HSAME.out _ (HK3.out.then HK5.out) | exact HSAME.out _ ((HK3.out.then HK5.out).then ((Keep.refl _ _).drewN _))⟩
       ·have dm:(mc != f)=true:=by simpa using gm
        have HS:=hid (show p.pt.recv f t b now=p.pt from by rw [HIN.out,if_neg (fun h=>gm h.2)])
        clear gm
        go_wp2_with fail
        go_end0
        exact ⟨rfl,by rw [HS.out];first | exact HSAME.out _ HK3.out | exact HSAME.out _ (HK3.out.then ((Keep.refl _ _).drewN _))⟩
      ·have HNE:=hid he
       have he1:(errM b != 0)=true:=by simpa using he
       have HS:=hid (show p.pt.recv f t b now=p.pt from by rw [HIN.out,if_neg (fun h=>he h.1)])
       clear he
       go_wp2_with (go_at_call 23;(with_reducible refine (HDE.out _ (HK1.out.then ((Keep.refl _ _).drewN _))).mono ?_);rintro e1 w2 ⟨hk2,_,hbad⟩;have hbad:=hbad HNE.out;subst hbad;simp only [z7];have HK2:=hid ((HK1.out.then ((Keep.refl _ _).drewN _)).then hk2);clear hk2)
       go_end0
       exact ⟨rfl,by rw [HS.out];exact HSAME.out _ (HK2.out.alloc _)⟩
   ·have d1:(t != p.cen)=true:=by simpa using g1
    have HS:=hid (show p.pt.recv f t b now=p.pt from by rw [HRV.out,if_neg (fun h=>g1 h.2.1)])
    go_enter Tryz.func17,Tryz.ntmps17
    go_upto_region 1 with fail
    go_quiet ((go_at_call 36;refine Calls.quiet_of_same ((HVT.out _).mono (fun _ _ h=>by rw [hv] at h;exact h))))
    go_wp2_with fail
    go_end0
    exact ⟨rfl,by rw [HS.out];exact HSAME.out _ (HK1.out.then ((Keep.refl _ _).drewN _))⟩
def okN (n:Int):Bool:=decide (0≤n) && decide (n≤4095)
theorem int_at {w:World} {Av:Nat→Prop} {A:Option Addr} {n:Nat} {l:List Int} (h:Sl w Av 1 A n (icells l)) {k:Nat} {a:Int} (ha:l[k]? = some a):∃ b off,A=some ⟨b,off,none⟩∧b<w.heap.size∧w.cell? ⟨b,off+k,none⟩=some (.int .i64 a):=by
 have hk:=(List.getElem?_eq_some_iff.1 ha).1
 have hl:=h.len
 rw [icells_len] at hl
 obtain ⟨b,off,e,hb,_,hr⟩:=h.at_ (by omega)
 exact ⟨b,off,e,hb,hr k _ (by simp [icells,ha])⟩
set_option maxHeartbeats 8000000 in
set_option maxRecDepth 100000 in
theorem validS_any (w:World) (Av:Nat→Prop) (k:Int) (A:Option Addr) (c:Nat) (nd:List Int) (hs:Sl w Av 1 A nd.length (icells nd)) (hn:nd.length≤1000000) :
 Calls Tryz.prog 118 #[.agg #[.int .i64 k,.slice A nd.length c]] w (fun e w'=>e=.returned (.bool (okS ⟨k,nd⟩))∧Same w w'):=by
 have HS:=hid (fun W (hk:Same w W)=>hs.same hk)
 have hk1:Same w (w.alloc (.cells #[.int .i64 k,.slice A nd.length c] 129)):=(Keep.refl _ _).alloc _
 have HK1:=hid hk1
 have HOK:=hid (show okS ⟨k,nd⟩=(decide (1≤k) && decide (k≤100) && decide (nd.length≤200) && nd.all okN) from rfl)
 clear hs hk1
 by_cases g1:k<1
 ·have d1:decide (k<1)=true:=decide_eq_true g1
  have HF:=hid (show okS ⟨k,nd⟩=false from by rw [HOK.out,decide_eq_false (show ¬1≤k by omega)];rfl)
  clear g1
  go_enter Tryz.func118,Tryz.ntmps118
  go_wp2_with fail
  go_ret
  exact ⟨by rw [HF.out];rfl,HK1.out⟩
 ·have d1:decide (k<1)=false:=decide_eq_false g1
  by_cases g2:100<k
  ·have d2:decide (100<k)=true:=decide_eq_true g2
   have HF:=hid (show okS ⟨k,nd⟩=false from by rw [HOK.out,decide_eq_false (show ¬k≤100 by omega)];simp)
   clear g1 g2
   go_enter Tryz.func118,Tryz.ntmps118
   go_wp2_with fail
   go_ret
   exact ⟨by rw [HF.out];rfl,HK1.out⟩
  ·have d2:decide (100<k)=false:=decide_eq_false g2
   by_cases g3:200<nd.length
   ·have d3:decide (200<nd.length)=true:=decide_eq_true g3
    have d3':decide ((200:Int)<(nd.length:Int))=true:=decide_eq_true (by omega)
    have HF:=hid (show okS ⟨k,nd⟩=false from by rw [HOK.out,decide_eq_false (show ¬nd.length≤200 by omega)];simp)
    clear g1 g2 g3
    go_enter Tryz.func118,Tryz.ntmps118
    go_wp2_with fail
    go_ret
    exact ⟨by rw [HF.out];rfl,HK1.out⟩
   ·have d3:decide (200<nd.length)=false:=decide_eq_false g3
    have d3':decide ((200:Int)<(nd.length:Int))=false:=decide_eq_false (by omega)
    have HOK2:=hid (show okS ⟨k,nd⟩=nd.all okN from by rw [HOK.out,decide_eq_true (show 1≤k by omega),decide_eq_true (show k≤100 by omega),decide_eq_true (show nd.length≤200 by omega)];rfl)
    clear g1 g2 g3
    go_enter Tryz.func118,Tryz.ntmps118
    go_wp2_with fail
    go_loopw [22] (fun i wr=>∃ j:Nat,j≤nd.length∧i=.int .i64 j∧Hid ((nd.take j).all okN=true)∧Hid (Same w wr)) (fun i _=>nd.length - (RowKit.intOf i).toNat)
    case atStart=>exact ⟨0,by omega,rfl,hid rfl,HK1⟩
    case round =>
     obtain ⟨j,hj,rfl,HA,HI⟩:=hrel
     by_cases hlt:j<nd.length
     ·obtain ⟨a,ha⟩:=get_some hlt
      obtain ⟨b1,o1,rfl,_,q1⟩:=int_at (HS.out wr HI.out) ha
      have hj1:(j:Int)<(nd.length:Int):=by omega
      have HT:=hid (fun (h:okN a=true)=>show (nd.take (j+1)).all okN=true from by rw [take_all ha,HA.out,h];rfl)
      have HB:=hid (fun (h:okN a=false)=>show okS ⟨k,nd⟩=false from by rw [HOK2.out];exact all_no ha h)
      clear ha
      by_cases e1:a<0
      ·have t1:decide (a<0)=true:=decide_eq_true e1
       have HF:=hid (HB.out (by unfold okN;rw [decide_eq_false (show ¬0≤a by omega)];rfl))
       clear e1
       go_wp2_with fail
       go_ret
       exact ⟨by rw [HF.out];rfl,HI.out⟩
      ·have t1:decide (a<0)=false:=decide_eq_false e1
       by_cases e2:4096≤a
       ·have t2:decide (4096≤a)=true:=decide_eq_true e2
        have HF:=hid (HB.out (by unfold okN;rw [decide_eq_false (show ¬a≤4095 by omega)];simp))
        clear e1 e2
        go_wp2_with fail
        go_ret
        exact ⟨by rw [HF.out];rfl,HI.out⟩
       ·have t2:decide (4096≤a)=false:=decide_eq_false e2
        have HT:=hid (HT.out (by unfold okN;rw [decide_eq_true (show 0≤a by omega),decide_eq_true (show a≤4095 by omega)];rfl))
        clear e1 e2
        go_wp2_with fail
        go_roundw
        case rel=>exact ⟨j+1,by omega,by go_num,HT,HI⟩
        case measure=>simp [RowKit.intOf];omega
     ·obtain rfl:j=nd.length:=by omega
      have HF:=hid (show okS ⟨k,nd⟩=true from by rw [HOK2.out];have:=HA.out;rwa [List.take_length] at this)
      go_wp2_with fail
      go_ret
      exact ⟨by rw [HF.out];rfl,HI.out⟩
def mayB (k:Int) (nd:List Int):Bool:=nd.all okN && (decide (1≤k) && decide (k≤100) && decide (nd.length≤200))
theorem may_ok (k:Int) (nd:List Int):mayB k nd=okS ⟨k,nd⟩:=by
 have:okS ⟨k,nd⟩=(decide (1≤k) && decide (k≤100) && decide (nd.length≤200) && nd.all okN):=rfl
 rw [this,mayB,Bool.and_comm]
set_option maxHeartbeats 8000000 in
set_option maxRecDepth 100000 in
theorem may_any (w:World) (Av:Nat→Prop) (k:Int) (A:Option Addr) (c:Nat) (nd:List Int) (hs:Sl w Av 1 A nd.length (icells nd)) (hn:nd.length≤1000000) :
 Calls Tryz.prog 103 #[.agg #[.int .i64 k,.slice A nd.length c]] w (fun e w'=>e=.returned (.bool (okS ⟨k,nd⟩))∧Same w w'):=by
 have HS:=hid (fun W (hk:Same w W)=>hs.same hk)
 have hk1:Same w (w.alloc (.cells #[.int .i64 k,.slice A nd.length c] 129)):=(Keep.refl _ _).alloc _
 have HBK:=hid (Blk.made w 129 #[.int .i64 k,.slice A nd.length c])
 have HK1:=hid hk1
 have HOK:=hid (show okS ⟨k,nd⟩=(nd.all okN && (decide (1≤k) && decide (k≤100) && decide (nd.length≤200))) from (may_ok k nd).symm)
 clear hs hk1
 go_enter Tryz.func103,Tryz.ntmps103
 go_wp2_with fail
 go_loopw [8] (fun i wr=>∃ j:Nat,j≤nd.length∧i=.int .i64 j∧Hid ((nd.take j).all okN=true)∧Hid (Same w wr∧Blk wr w.heap.size 129 #[.int .i64 k,.slice A nd.length c])) (fun i _=>nd.length - (RowKit.intOf i).toNat)
 case atStart=>exact ⟨0,by omega,rfl,hid rfl,hid ⟨HK1.out,HBK.out⟩⟩
 case round =>
  obtain ⟨j,hj,rfl,HA,HI⟩:=hrel
  by_cases hlt:j<nd.length
  ·obtain ⟨a,ha⟩:=get_some hlt
   obtain ⟨b1,o1,rfl,_,q1⟩:=int_at (HS.out wr HI.out.1) ha
   have hj1:(j:Int)<(nd.length:Int):=by omega
   have HT:=hid (fun (h:okN a=true)=>show (nd.take (j+1)).all okN=true from by rw [take_all ha,HA.out,h];rfl)
   have HB:=hid (fun (h:okN a=false)=>show okS ⟨k,nd⟩=false from by rw [HOK.out,all_no ha h];rfl)
   clear ha
   by_cases e1:a<0
   ·have t1:decide (a<0)=true:=decide_eq_true e1
    have HF:=hid (HB.out (by unfold okN;rw [decide_eq_false (show ¬0≤a by omega)];rfl))
    clear e1
    go_wp2_with fail
    go_ret
    exact ⟨by rw [HF.out];rfl,HI.out.1⟩
   ·have t1:decide (a<0)=false:=decide_eq_false e1
    by_cases e2:4095<a
    ·have t2:decide (4095<a)=true:=decide_eq_true e2
     have HF:=hid (HB.out (by unfold okN;rw [decide_eq_false (show ¬a≤4095 by omega)];simp))
     clear e1 e2
     go_wp2_with fail
     go_ret
     exact ⟨by rw [HF.out];rfl,HI.out.1⟩
    ·have t2:decide (4095<a)=false:=decide_eq_false e2
     have HT:=hid (HT.out (by unfold okN;rw [decide_eq_true (show 0≤a by omega),decide_eq_true (show a≤4095 by omega)];rfl))
     clear e1 e2
     go_wp2_with fail
     go_roundw
     case rel=>exact ⟨j+1,by omega,by go_num,HT,HI⟩
     case measure=>simp [RowKit.intOf];omega
  ·obtain rfl:j=nd.length:=by omega
   have HOK2:=hid (show okS ⟨k,nd⟩=(decide (1≤k) && decide (k≤100) && decide (nd.length≤200)) from by rw [HOK.out];have:=HA.out;rw [List.take_length] at this;rw [this];rfl)
   have q0:wr.cell? ⟨w.heap.size,0,none⟩=some (.int .i64 k):=HI.out.2.at_ 0
   have q1:wr.cell? ⟨w.heap.size,1,none⟩=some (.slice A nd.length c):=HI.out.2.at_ 1
   by_cases g1:1≤k
   ·have d1:decide (1≤k)=true:=decide_eq_true g1
    by_cases g2:k≤100
    ·have d2:decide (k≤100)=true:=decide_eq_true g2
     by_cases g3:nd.length≤200
     ·have d3:decide (nd.length≤200)=true:=decide_eq_true g3
      have d3':decide ((nd.length:Int)≤200)=true:=decide_eq_true (by omega)
      have HF:=hid (show okS ⟨k,nd⟩=true from by rw [HOK2.out,d1,d2,d3];rfl)
      clear g1 g2 g3
      go_wp2_with fail
      go_ret
      exact ⟨by rw [HF.out];rfl,HI.out.1⟩
     ·have d3:decide (nd.length≤200)=false:=decide_eq_false g3
      have d3':decide ((nd.length:Int)≤200)=false:=decide_eq_false (by omega)
      have HF:=hid (show okS ⟨k,nd⟩=false from by rw [HOK2.out,d1,d2,d3];rfl)
      clear g1 g2 g3
      go_wp2_with fail
      go_ret
      exact ⟨by rw [HF.out];rfl,HI.out.1⟩
    ·have d2:decide (k≤100)=false:=decide_eq_false g2
     have HF:=hid (show okS ⟨k,nd⟩=false from by rw [HOK2.out,d1,d2];rfl)
     clear g1 g2
     go_wp2_with fail
     go_ret
     exact ⟨by rw [HF.out];rfl,HI.out.1⟩
   ·have d1:decide (1≤k)=false:=decide_eq_false g1
    have HF:=hid (show okS ⟨k,nd⟩=false from by rw [HOK2.out,d1];rfl)
    clear g1
    go_wp2_with fail
    go_ret
    exact ⟨by rw [HF.out];rfl,HI.out.1⟩
theorem ESr:Elem Tryz.prog 51 129 2 32 (.agg #[.int .i64 0,.slice none 0 0]):=⟨Tryz.underlying51,by kernel_rfl,rfl,by decide⟩
theorem sa_one (y:SA):∀ u∈y.cells,u.oneCell'=true:=by
 intro u hu
 simp only [SA.cells,List.mem_cons,List.not_mem_nil,or_false] at hu
 rcases hu with rfl | rfl <;> rfl
theorem fvS_none {l:List Src} {j:Nat} {s:Src} (hs:l[j]? = some s) (h:okS s=false):(l.take (j+1)).filter okS=(l.take j).filter okS:=by rw [take_snoc hs,List.filter_append];simp [h]
theorem fvS_some {l:List Src} {j:Nat} {s:Src} (hs:l[j]? = some s) (h:okS s=true):(l.take (j+1)).filter okS=(l.take j).filter okS++[s]:=by rw [take_snoc hs,List.filter_append];simp [h]
structure FV (w wr:World) (V:Option Addr) (vc:Nat) (v:List SA) (r:List Src):Prop where
 own:Own wr w.heap.size 129 2 (.slice V v.length vc) v.length (v.flatMap SA.cells)
 el:∀ x∈v,Sl wr (fun i=>i<w.heap.size∨(Value.slice V v.length vc).ownBlock=some i) 1 x.A x.nd.length (icells x.nd)
 pt:v.map SA.pt=r
 same:Same w wr
def FvPost (w:World) (r:List Src) (e:Ending) (w':World):Prop:=∃ (v:List SA) (B:Option Addr) (c:Nat),e=.returned (.slice B v.length c)∧v.map SA.pt=r∧SAs w' (fun i=>i<w.heap.size) B v∧Same w w'
theorem FV.post {w wr:World} {V:Option Addr} {vc:Nat} {v:List SA} {r:List Src} (h:FV w wr V vc v r):SAs wr (fun i=>i<w.heap.size) V v:=⟨h.own.slN,fun x hx=>(h.el x hx).wide (fun _ _ h=>.inl h)⟩
theorem FV.keep {w wr w2:World} {V:Option Addr} {vc:Nat} {v:List SA} {r:List Src} (h:FV w wr V vc v r) (hk:Same wr w2):FV w w2 V vc v r:=⟨h.own.keepB hk (fun _ _ f=>f),fun x hx=>(h.el x hx).same hk,h.pt,h.same.then hk⟩
theorem FV.grow {w w6 w7:World} {V A7:Option Addr} {vc c7 n0:Nat} {v:List SA} {r:List Src} (h:FV w w6 V vc v r) {y:SA} (hy:Sl w6 (fun i=>i<n0) 1 y.A y.nd.length (icells y.nd)) (hn0:w.heap.size≤n0) (hvn:∀ g,(Value.slice V v.length vc).ownBlock=some g→g<n0)
 (ho7:Own w7 w.heap.size 129 2 (.slice A7 (v.length+1) c7) (v.length+1) ((v++[y]).flatMap SA.cells)) (hg7:w6.grownBy w7 (Value.slice V v.length vc).ownBlock)
 (hw7:(Value.slice A7 (v.length+1) c7).ownBlock=(Value.slice V v.length vc).ownBlock∨∃ g,(Value.slice A7 (v.length+1) c7).ownBlock=some g∧w6.heap.size≤g):FV w w7 A7 c7 (v++[y]) (r++[y.pt]):=by
 have hkq:Keep (fun j=>(Value.slice V v.length vc).ownBlock=some j) w6 w7:=(Keep.refl _ _).grown hg7 (fun x e _=>e)
 have hl:(v++[y]).length=v.length+1:=by simp
 refine ⟨by rw [hl];exact ho7,fun x hx=>?_,by rw [List.map_append,h.pt];rfl,h.same.app h.own hg7 (fun g hb hlt=>by omega)⟩
 rw [hl]
 rcases List.mem_append.1 hx with hx | hx
 ·have h1:=(h.el x hx).wide (Av':=fun i=>(i<w.heap.size∨(Value.slice A7 (v.length+1) c7).ownBlock=some i)∨(Value.slice V v.length vc).ownBlock=some i) (fun i hi ha=>by
   rcases ha with (ha | ha) | ha
   ·exact .inl ha
   ·rcases hw7 with q | ⟨g,q,hg⟩
    ·exact .inr (q ▸ ha)
    ·rw [q] at ha;injection ha with ha;omega
   ·exact .inr ha)
  have h2:=h1.keep hkq (fun i _ hs=>.inr hs)
  exact h2.wide (fun _ _ h=>.inl h)
 ·rw [List.mem_singleton] at hx;subst hx
  have h1:=hy.wide (Av':=fun i=>(i<w.heap.size∨(Value.slice A7 (v.length+1) c7).ownBlock=some i)∨(Value.slice V v.length vc).ownBlock=some i) (fun i hi ha=>by
   rcases ha with (ha | ha) | ha
   ·omega
   ·rcases hw7 with q | ⟨g,q,hg⟩
    ·exact hvn i (q ▸ ha)
    ·rw [q] at ha;injection ha with ha;omega
   ·exact hvn i ha)
  have h2:=h1.keep hkq (fun i _ hs=>.inr hs)
  exact h2.wide (fun _ _ h=>.inl h)
set_option maxHeartbeats 8000000 in
set_option maxRecDepth 100000 in
theorem firstV_any (w:World) (Av:Nat→Prop) (B:Option Addr) (cb:Nat) (l:List SA) (hs:SAs w Av B l) (hn:l.length≤1000) (hnd:∀ x∈l,x.nd.length≤1000) :
 Calls Tryz.prog 68 #[.slice B l.length cb] w (FvPost w (fvS (l.map SA.pt))):=by
 have HS:=hid (fun W (hk:Same w W)=>hs.same hk)
 have HND:=hid hnd
 clear hs hnd
 go_enter Tryz.func68,Tryz.ntmps68
 go_wp2_with fail
 go_loopw [3,8] (fun vv i wr=>∃ (j:Nat) (v:List SA) (V:Option Addr) (vc:Nat),j≤l.length∧i=.int .i64 j∧vv=.slice V v.length vc∧v.length≤16∧Hid (FV w wr V vc v (((l.map SA.pt).take j).filter okS))) (fun _ i _=>l.length - (RowKit.intOf i).toNat)
 case atStart=>exact ⟨0,[],none,0,by omega,rfl,rfl,by simp,hid ⟨Own.nil _ _ _ _,(fun _ h=>by cases h),rfl,Keep.refl _ _⟩⟩
 case round =>
  obtain ⟨j,v,V,vc,hj,rfl,rfl,hv,HI⟩:=hrel
  have HW:=hid (show (((l.map SA.pt).take j).filter okS).length=v.length from by rw [←HI.out.pt,List.length_map])
  have HX:=hid (show (l.map SA.pt).filter okS=((l.map SA.pt).take j).filter okS++((l.map SA.pt).drop j).filter okS from by rw [←List.filter_append,List.take_append_drop])
  by_cases hlt:j<l.length
  ·obtain ⟨a,ha⟩:=get_some hlt
   obtain ⟨b1,o1,rfl,_,y0,y1⟩:=(HS.out wr HI.out.same).at_ ha
   have hj1:(j:Int)<(l.length:Int):=by omega
   have hsl:=(HS.out wr HI.out.same).el a (List.mem_of_getElem? ha)
   have hnl:=HND.out a (List.mem_of_getElem? ha)
   have HP:=hid (show (l.map SA.pt)[j]? = some a.pt from by rw [List.getElem?_map,ha];rfl)
   obtain ⟨ak,aA,ac,and_⟩:=a
   simp only at y0 y1 hsl hnl
   have HSL:=hid hsl
   have HVS:=hid (fun W (hk:Same wr W)=>validS_any W Av ak aA ac and_ (hsl.same hk) (by omega))
   have HBQ:=hid (Blk.made wr 129 #[.int .i64 ak,.slice aA and_.length ac])
   clear ha hsl
   by_cases g16:v.length=16
   ·have d16:(v.length == 16)=true:=by simp [g16]
    have d16':((v.length:Int) == 16)=true:=by simp [g16]
    have HF:=hid (show v.map SA.pt=fvS (l.map SA.pt) from by
     unfold fvS
     rw [HX.out,List.take_append_of_le_length (by rw [HW.out];omega),List.take_of_length_le (by rw [HW.out];omega),HI.out.pt])
    clear g16
    go_wp2_with fail
    go_ret
    exact ⟨v,V,vc,rfl,HF.out,HI.out.post.same ((Keep.refl _ _).alloc _),HI.out.same.alloc _⟩
   ·have d16:(v.length == 16)=false:=by simpa using g16
    have d16':((v.length:Int) == 16)=false:=by have:¬(v.length:Int)=16:=by omega
                                               simpa using this
    cases hok:okS ⟨ak,and_⟩ with
    | false =>
      have HN:=hid (fvS_none HP.out hok)
      have HOK:=hid hok
      clear hok g16
      go_wp2_with (go_at_call 118;(with_reducible refine (HVS.out _ ((Keep.refl _ _).alloc _)).mono ?_);rintro e1 w3 ⟨rfl,hk3⟩;rw [HOK.out];have HK3:=hid hk3;clear hk3)
      go_roundw
      case rel =>
       have HF:=hid (show FV w w3 V vc v (((l.map SA.pt).take (j+1)).filter okS) from by rw [HN.out];exact HI.out.keep (((Keep.refl _ _).alloc _).then HK3.out))
       first | exact ⟨j+1,v,V,vc,by omega,by go_num,rfl,hv,HF⟩ | ((repeat apply Exists.intro);refine And.intro ?_ rfl;exact ⟨j+1,v,V,vc,by omega,by go_num,rfl,hv,HF⟩)
      case measure=>simp [RowKit.intOf];omega
    | true =>
      have HN:=hid (fvS_some HP.out hok)
      have HOK:=hid hok
      clear hok
      go_upto_region 7 with (go_at_call 118;(with_reducible refine (HVS.out _ ((Keep.refl _ _).alloc _)).mono ?_);rintro e1 w3 ⟨rfl,hk3⟩;rw [HOK.out];have HK3:=hid hk3;clear hk3)
      have HNQ:=hid (show ¬(Value.slice V v.length vc).ownBlock=some wr.heap.size from fun e=>by have:=HI.out.own.lt _ e;omega)
      have HI3:=hid (HI.out.keep (((Keep.refl _ _).alloc _).then HK3.out))
      have HB3:=hid (HBQ.out.keep HK3.out (fun f=>f))
      have HSL3:=hid (HSL.out.same (((Keep.refl _ _).alloc _).then HK3.out))
      obtain ⟨q,hq⟩:∃ q,q=wr.heap.size:=⟨_,rfl⟩
      rw [←hq] at HB3 HNQ ⊢
      clear hq HBQ HSL HI HVS y0 y1 HK3
      have z0:w3.cell? ⟨q,0,none⟩=some (.int .i64 ak):=HB3.out.at_ 0
      have z1:w3.cell? ⟨q,1,none⟩=some (.slice aA and_.length ac):=HB3.out.at_ 1
      refine wp_region_held_drew (S:=fun W=>W.cell? ⟨q,0,none⟩=some (.int .i64 ak)∧W.cell? ⟨q,1,none⟩=some (.slice aA and_.length ac)) (by kernel_rfl) ⟨z0,z1⟩ (fun hHeld=>?_)
      refine tk 0 ?_
      refine tk 1 ?_
      refine tk 2 ?_
      refine tk 3 ?_
      refine tk 4 ?_
      have HId:=hid (HI3.out.keep (Keep.refl (fun _=>False) w3).drew)
      have HBd:=hid (HB3.out.keep (Keep.refl (fun _=>False) w3).drew (fun f=>f))
      have HSd:=hid (HSL3.out.same (Keep.refl (fun _=>False) w3).drew)
      clear hHeld z0 z1 HI3 HB3 HSL3
      generalize w3.drew=wd at *
      refine rd1 5 (fun K hK=>?_)
      refine EIn.step2 rfl (.const (.slice none 0 0)) (.tmp 21) rfl (.slice none 0 0) aA and_.length ac rfl rfl wd.heap.size 0 [] (icells and_) and_.length _ (Nat.zero_add _) rfl (Own.nil _ _ _ _) (by rw [icells_len];omega) (HSd.out.src (Keep.refl (fun _=>False) _)) (icells_one _) (by omega) (by unfold maxLen;omega) (Nat.le_refl _) (by
       intro A2 c2 w4 ho hg hw
       have hk4:Same wd w4:=(Keep.refl (fun _=>False) wd).app (Own.nil wd wd.heap.size 3 1) hg (fun g h1 h2=>by omega)
       have HO:=hid ho
       have HK4:=hid hk4
       have hb4:=HBd.out.keep hk4 (fun f=>f)
       clear ho hg hw
       refine hK.out _ _ ⟨(hb4.at_ 0).trans rfl,(hb4.at_ 1).trans rfl⟩ (fun hHeld=>?_)
       clear hK K hb4 hk4
       refine pput ?_
       refine tk 6 ?_
       refine rd1 7 (fun K hK=>?_)
       go_simp
       have hbg:=Blk.made w4 129 #[.int .i64 ak,.slice A2 and_.length c2]
       have hk6:Same wd (w4.alloc (.cells #[.int .i64 ak,.slice A2 and_.length c2] 129)):=HK4.out.alloc _
       have hs6:=HO.out.slN.same ((Keep.refl (fun _=>False) w4).alloc (.cells #[.int .i64 ak,.slice A2 and_.length c2] 129))
       obtain ⟨g,hg⟩:∃ g,g=w4.heap.size:=⟨_,rfl⟩
       rw [←hg] at hbg ⊢
       generalize (w4.alloc (.cells #[.int .i64 ak,.slice A2 and_.length c2] 129))=w6 at *
       have HK6:=hid hk6
       have HS6:=hid hs6
       have hb6:=HBd.out.keep hk6 (fun f=>f)
       have HI6:=hid (HId.out.keep hk6)
       clear hg hk6 hs6 HO HK4
       refine hK.out _ _ ⟨(hb6.at_ 0).trans rfl,(hb6.at_ 1).trans rfl⟩ (fun hHeld=>?_)
       clear hK K hb6
       refine pput ?_
       refine rd1 8 (fun K hK=>?_)
       refine ESr.step2 rfl (.tmp 17) (.tmp 24) rfl (.slice V v.length vc) (some ⟨g,0,none⟩) 1 1 rfl rfl w.heap.size v.length (v.flatMap SA.cells) ((⟨ak,A2,c2,and_⟩:SA).cells) (v.length+1) ((v++[(⟨ak,A2,c2,and_⟩:SA)]).flatMap SA.cells) rfl (by rw [List.flatMap_append,List.flatMap_singleton]) HI6.out.own rfl (fun _=>⟨_,rfl,src_blk hbg⟩) (sa_one _) (by omega) (by unfold maxLen;omega) HI6.out.same.size (by
        intro A7 c7 w7 ho7 hg7 hw7
        have HF:=hid (HI6.out.grow (y:=⟨ak,A2,c2,and_⟩) HS6.out HId.out.same.size HId.out.own.lt ho7 hg7 (own_or hw7))
        have hkq:Keep (fun j=>(Value.slice V v.length vc).ownBlock=some j) w6 w7:=(Keep.refl _ _).grown hg7 (fun x e _=>e)
        have hb7:=(HBd.out.keep HK6.out (fun f=>f)).keep hkq (fun e=>HNQ.out e)
        clear ho7 hg7 hw7 hkq
        refine hK.out _ _ ⟨(hb7.at_ 0).trans rfl,(hb7.at_ 1).trans rfl⟩ (fun hHeld=>?_)
        clear hK K hb7
        refine pput ?_
        refine tk 9 ?_
        refine wpAnyH_done (by kernel_rfl) ?_ _
        go_wp2_with fail
        go_roundw
        case rel =>
         have HF:=hid (show FV w w7 A7 c7 (v++[(⟨ak,A2,c2,and_⟩:SA)]) (((l.map SA.pt).take (j+1)).filter okS) from by rw [HN.out];exact HF.out)
         first | exact ⟨j+1,v++[(⟨ak,A2,c2,and_⟩:SA)],A7,c7,by omega,by go_num,by simp,by simp;omega,HF⟩ | ((repeat apply Exists.intro);refine And.intro ?_ rfl;exact ⟨j+1,v++[(⟨ak,A2,c2,and_⟩:SA)],A7,c7,by omega,by go_num,by simp,by simp;omega,HF⟩)
        case measure=>simp [RowKit.intOf];omega))
  ·obtain rfl:j=l.length:=by omega
   have HF:=hid (show v.map SA.pt=fvS (l.map SA.pt) from by
    rw [HI.out.pt,List.take_of_length_le (by simp)]
    unfold fvS
    rw [List.take_of_length_le]
    have:=HW.out
    rw [List.take_of_length_le (by simp)] at this
    omega)
   go_wp2_with fail
   go_ret
   exact ⟨v,V,vc,rfl,HF.out,HI.out.post,HI.out.same⟩
end Go.Proofs.YtbjddfiledoaoaaGreat

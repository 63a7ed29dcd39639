import Derived.Test.YtbjddfiledoaoaaGreatConfA
import Derived.Deep.Cut
namespace Go.Proofs.YtbjddfiledoaoaaGreat
open Go.RowKit Go.PlainAid
section
variable (w:World)
theorem outside_any (g:Nat) (d cen:Int) (hc:w.cell? ⟨g,0,none⟩=some (.int .i64 cen)):Calls Tryz.prog 90 #[.int .i64 d,.pointer (some ⟨g,0,none⟩)] w fun e w'=>e=.returned (.bool (!(inB d cen)))∧w=w':=by
 have HIK:=hid isIndex_any
 go_enter Tryz.func90,Tryz.ntmps90
 go_wp2_with (go_at_call 91;(with_reducible refine (HIK.out _ _ _).mono ?_);rintro e w9 ⟨rfl,rfl⟩)
 go_ret
 exact ⟨rfl,rfl⟩
def IdxPost (w:World) (b:Bool) (e:Ending) (w':World):Prop:=∃ i:Int,e=.returned (.int .i64 i)∧decide (0≤i) = !b∧w=w'
theorem index_any (g:Nat) (cen:Int) (A:Option Addr) (c:Nat) (l:List Int) (hs:Sl w (fun _=>False) 1 A l.length (icellsC l)) (hl:l.length≤maxLen) (hc:w.cell? ⟨g,0,none⟩=some (.int .i64 cen)) :
 Calls Tryz.prog 124 #[.slice A l.length c,.func (.func 90) #[] #[.pointer (some ⟨g,0,none⟩)]] w (IdxPost w (l.all (fun d=>inB d cen))):=by
 have HS:=hid hs
 have HL:=hid hl
 have HO:=hid (outside_any w g)
 clear hs hl
 have HB:=hid (show ∀ b,b=l.all (fun d=>inB d cen)→b=l.all (fun d=>inB d cen) from fun _ h=>h)
 generalize hp:(fun d=>inB d cen)=p at *
 have HP:=hid (fun d=>(congrFun hp d).symm)
 clear hp HB
 go_enter Tryz.func124,Tryz.ntmps124
 go_wp2_with fail
 go_loopw [8] (fun i wr=>∃ k:Nat,k≤l.length∧i=.int .i64 k∧Hid (wr=w∧(l.take k).all p=true)) (fun i _=>l.length - (RowKit.intOf i).toNat)
 case atStart=>exact ⟨0,by omega,rfl,hid ⟨rfl,by simp⟩⟩
 case round =>
  obtain ⟨k,hk,rfl,HI⟩:=hrel
  obtain ⟨rfl,hi0⟩:=HI.out
  clear HI
  have HI:=hid hi0
  clear hi0
  by_cases hlt:k<l.length
  ·obtain ⟨a,ha⟩:=get_some (l:=l) (k:=k) hlt
   obtain ⟨b,off,rfl,hb3,q0⟩:=ints_at HS.out ha
   have HT:=hid (take_all (p:=p) ha)
   have HNo:=hid (fun hp=>all_no (p:=p) ha hp)
   have hk1:(k:Int)<(l.length:Int):=by omega
   clear ha
   have HPa:=hid (HP.out a)
   by_cases i1:inB a cen=true
   ·go_upto_region 6 with (go_at_call 90;(with_reducible refine (HO.out _ _ hc).mono ?_);rintro e w9 ⟨rfl,rfl⟩;rw [i1])
    have hk2:(k:Int)+1≤9223372036854775807:=by have:=HL.out;unfold maxLen at this;omega
    go_wp2_with fail
    go_roundw
    case rel=>exact ⟨k+1,by omega,by go_num,hid ⟨by trivial,by rw [HT.out,HI.out,HPa.out,i1];rfl⟩⟩
    case measure=>simp [RowKit.intOf];omega
   ·have i1':inB a cen=false:=by simpa using i1
    clear i1
    go_wp2_with (go_at_call 90;(with_reducible refine (HO.out _ _ hc).mono ?_);rintro e w9 ⟨rfl,rfl⟩;rw [i1'])
    go_ret
    exact ⟨_,rfl,by rw [HNo.out (by rw [HPa.out,i1']),decide_eq_true (by omega)];rfl,rfl⟩
  ·have e1:l.take k=l:=List.take_of_length_le (by omega)
   have hk1:(l.length:Int)≤(k:Int):=by omega
   have h2:=HI.out
   rw [e1] at h2
   have H2:=hid h2
   clear h2 e1
   go_wp2_with fail
   go_ret
   exact ⟨_,rfl,by rw [H2.out];rfl,rfl⟩
theorem contains_any (g:Nat) (cen:Int) (A:Option Addr) (c:Nat) (l:List Int) (hs:Sl w (fun _=>False) 1 A l.length (icellsC l)) (hl:l.length≤maxLen) (hc:w.cell? ⟨g,0,none⟩=some (.int .i64 cen)) :
 Calls Tryz.prog 89 #[.slice A l.length c,.func (.func 90) #[] #[.pointer (some ⟨g,0,none⟩)]] w fun e w'=>e=.returned (.bool (!(l.all (fun d=>inB d cen))))∧w=w':=by
 have HX:=hid (index_any w g cen A c l hs hl hc)
 clear hs hl hc
 generalize l.all (fun d=>inB d cen)=b at *
 go_enter Tryz.func89,Tryz.ntmps89
 go_wp2_with (go_at_call 124;(with_reducible refine HX.out.mono ?_);rintro e w9 ⟨i,rfl,hi,rfl⟩;have HJ:=hid hi;clear hi)
 go_ret
 exact ⟨ret_of (congrArg Value.bool HJ.out),rfl⟩
def VB4 (c:CF):Prop:=1≤c.cen∧c.cen≤9∧1≤(c.dis.length:Int)∧(c.dis.length:Int)≤4096
def disB (c:CF):Bool:=c.dis.all (fun d=>inB d c.cen)
theorem VB4.b1 {c:CF} (h:VB4 c):(decide (1≤c.cen) && decide (c.cen≤9))=true:=by obtain ⟨h1,h2,_⟩:=h;simp [h1,h2]
theorem VB4.b2 {c:CF} (h:VB4 c):(decide (1≤c.dis.length) && decide (c.dis.length≤4096))=true:=by
 obtain ⟨_,_,h1,h2⟩:=h
 rw [decide_eq_true (show 1≤c.dis.length by omega),decide_eq_true (show c.dis.length≤4096 by omega)];rfl
theorem vnum1 {c:CF} (h:¬1≤c.cen∨¬c.cen≤9):1=vnum c:=by
 rw [vnum,if_pos (by rcases h with h | h <;> simp [h])]
theorem vnum2 {c:CF} (h1:1≤c.cen) (h2:c.cen≤9) (h:¬1≤(c.dis.length:Int)∨¬(c.dis.length:Int)≤4096):2=vnum c:=by
 rw [vnum,if_neg (by simp [h1,h2]),if_pos]
 rcases h with h | h
 ·rw [decide_eq_false (show ¬1≤c.dis.length by omega)];rfl
 ·rw [decide_eq_false (show ¬c.dis.length≤4096 by omega),Bool.and_false]
theorem vnum3 {c:CF} (h:VB4 c) (h3:disB c=false):3=vnum c:=by
 rw [disB] at h3
 rw [vnum,if_neg (by rw [h.b1];simp),if_neg (by rw [h.b2];simp),if_pos h3]
theorem vnum4 {c:CF} (h:VB4 c) (h3:disB c=true) (h4:edgesB c=false):4=vnum c:=by
 rw [disB] at h3
 rw [vnum,if_neg (by rw [h.b1];simp),if_neg (by rw [h.b2];simp),if_neg (by rw [h3];simp),if_pos h4]
theorem vnum5 {c:CF} (h:VB4 c) (h3:disB c=true) (h4:edgesB c=true) (h5:unitsB c=false):5=vnum c:=by
 rw [disB] at h3
 rw [vnum,if_neg (by rw [h.b1];simp),if_neg (by rw [h.b2];simp),if_neg (by rw [h3];simp),if_neg (by rw [h4];simp),if_pos h5]
theorem vnum6 {c:CF} (h:VB4 c) (h3:disB c=true) (h4:edgesB c=true) (h5:unitsB c=true) (h6:plansB c.pla=false):6=vnum c:=by
 rw [disB] at h3
 rw [vnum,if_neg (by rw [h.b1];simp),if_neg (by rw [h.b2];simp),if_neg (by rw [h3];simp),if_neg (by rw [h4];simp),if_neg (by rw [h5];simp),if_pos h6]
theorem vnum7 {c:CF} (h:VB4 c) (h3:disB c=true) (h4:edgesB c=true) (h5:unitsB c=true) (h6:plansB c.pla=true) (h7:parB c=false):7=vnum c:=by
 rw [disB] at h3
 rw [vnum,if_neg (by rw [h.b1];simp),if_neg (by rw [h.b2];simp),if_neg (by rw [h3];simp),if_neg (by rw [h4];simp),if_neg (by rw [h5];simp),if_neg (by rw [h6];simp),if_pos h7]
theorem vnum0 {c:CF} (h:VB4 c) (h3:disB c=true) (h4:edgesB c=true) (h5:unitsB c=true) (h6:plansB c.pla=true) (h7:parB c=true):0=vnum c:=by
 rw [disB] at h3
 rw [vnum,if_neg (by rw [h.b1];simp),if_neg (by rw [h.b2];simp),if_neg (by rw [h3];simp),if_neg (by rw [h4];simp),if_neg (by rw [h5];simp),if_neg (by rw [h6];simp),if_neg (by rw [h7];simp)]
set_option maxRecDepth 100000 in
set_option maxHeartbeats 8000000 in
theorem validate_any (c:CF) (hm:CM w c):Calls Tryz.prog 57 #[.agg c.cells.toArray] w fun e w'=>e=.returned (.int .i64 (vnum c))∧Same w w':=by
 have HW:=hid ((Keep.refl (fun _=>False) w).alloc (.cells c.cells.toArray 27))
 have HE:=hid (fun W (hk:Same w W) (hb:Blk W w.heap.size 27 c.cells.toArray)=>validEdges_any W w.heap.size c hb (hm.same hk))
 have HU:=hid (fun W (hk:Same w W) (hb:Blk W w.heap.size 27 c.cells.toArray)=>validUnits_any W w.heap.size c hb (hm.same hk))
 have HP:=hid (fun W (hk:Same w W) (hb:Blk W w.heap.size 27 c.cells.toArray)=>validPlans_any W w.heap.size c hb (hm.same hk))
 have HQ:=hid (fun W (hb:Blk W w.heap.size 27 c.cells.toArray)=>validPars_any W w.heap.size c hb)
 have HD:=hid (fun W (hk:Same w W) (hb:Blk W w.heap.size 27 c.cells.toArray)=>contains_any W w.heap.size c.cen c.D c.cD c.dis (hm.same hk).dis (hm.same hk).lD ((hb.at_ 0).trans rfl))
 have hmf:=mkfn
 have HB:=hid (Blk.made w 27 c.cells.toArray)
 have HV:=hid (fun h=>@vnum3 c h)
 have HV1:=hid (fun h=>@vnum4 c h)
 have HV2:=hid (fun h=>@vnum5 c h)
 have HV3:=hid (fun h=>@vnum6 c h)
 have HV4:=hid (fun h=>@vnum7 c h)
 have HV5:=hid (fun h=>@vnum0 c h)
 have hda:disB c=c.dis.all (fun d=>inB d c.cen):=rfl
 rw [←hda] at HD
 clear hda hm
 simp only [CF.cells] at *
 by_cases k1:1≤c.cen
 rotate_left 1
 ·go_enter Tryz.func57,Tryz.ntmps57
  go_wp2_with fail
  go_ret
  exact ⟨ret_of (int_of (vnum1 (.inl (by omega)))),HW.out⟩
 by_cases k2:c.cen≤9
 rotate_left 1
 ·go_enter Tryz.func57,Tryz.ntmps57
  go_wp2_with fail
  go_ret
  exact ⟨ret_of (int_of (vnum1 (.inr (by omega)))),HW.out⟩
 by_cases k3:1≤(c.dis.length:Int)
 rotate_left 1
 ·go_enter Tryz.func57,Tryz.ntmps57
  go_wp2_with fail
  go_ret
  exact ⟨ret_of (int_of (vnum2 k1 k2 (.inl (by omega)))),HW.out⟩
 by_cases k4:(c.dis.length:Int)≤4096
 rotate_left 1
 ·go_enter Tryz.func57,Tryz.ntmps57
  go_wp2_with fail
  go_ret
  exact ⟨ret_of (int_of (vnum2 k1 k2 (.inr (by omega)))),HW.out⟩
 have HF:=hid (show VB4 c from ⟨k1,k2,k3,k4⟩)
 go_enter Tryz.func57,Tryz.ntmps57
 go_wp2_with fail
 (with_reducible refine (HD.out _ HW.out HB.out).mono ?_)
 rintro e w1 ⟨rfl,rfl⟩
 have HW1:=hid HW.out
 have HB1:=hid HB.out
 cases hg:disB c
 ·have HG0:=hid hg
  clear hg
  go_wp2_with fail
  go_ret
  exact ⟨ret_of (int_of (HV.out HF.out HG0.out)),HW1.out⟩
 ·have HG0:=hid hg
  clear hg
  go_wp2_with fail
  (with_reducible refine (HE.out _ HW1.out HB1.out).mono ?_)
  rintro e w2 ⟨rfl,hs2⟩
  have HW2:=hid (HW1.out.then hs2)
  have HB2:=hid (HB1.out.keep (S:=fun _=>False) hs2 (fun f=>f))
  clear hs2
  cases hg:edgesB c
  ·have HG1:=hid hg
   clear hg
   go_wp2_with fail
   go_ret
   exact ⟨ret_of (int_of (HV1.out HF.out HG0.out HG1.out)),HW2.out⟩
  ·have HG1:=hid hg
   clear hg
   go_wp2_with fail
   (with_reducible refine (HU.out _ HW2.out HB2.out).mono ?_)
   rintro e w3 ⟨rfl,hs3⟩
   have HW3:=hid (HW2.out.then hs3)
   have HB3:=hid (HB2.out.keep (S:=fun _=>False) hs3 (fun f=>f))
   clear hs3
   cases hg:unitsB c
   ·have HG2:=hid hg
    clear hg
    go_wp2_with fail
    go_ret
    exact ⟨ret_of (int_of (HV2.out HF.out HG0.out HG1.out HG2.out)),HW3.out⟩
   ·have HG2:=hid hg
    clear hg
    go_wp2_with fail
    (with_reducible refine (HP.out _ HW3.out HB3.out).mono ?_)
    rintro e w4 ⟨rfl,hs4⟩
    have HW4:=hid (HW3.out.then hs4)
    have HB4:=hid (HB3.out.keep (S:=fun _=>False) hs4 (fun f=>f))
    clear hs4
    cases hg:plansB c.pla
    ·have HG3:=hid hg
     clear hg
     go_wp2_with fail
     go_ret
     exact ⟨ret_of (int_of (HV3.out HF.out HG0.out HG1.out HG2.out HG3.out)),HW4.out⟩
    ·have HG3:=hid hg
     clear hg
     go_wp2_with fail
     (with_reducible refine (HQ.out _ HB4.out).mono ?_)
     rintro e w5 ⟨rfl,hs5⟩
     have HW5:=hid (HW4.out.then hs5)
     have HB5:=hid (HB4.out.keep (S:=fun _=>False) hs5 (fun f=>f))
     clear hs5
     cases hg:parB c
     ·have HG4:=hid hg
      clear hg
      go_wp2_with fail
      go_ret
      exact ⟨ret_of (int_of (HV4.out HF.out HG0.out HG1.out HG2.out HG3.out HG4.out)),HW5.out⟩
     ·have HG4:=hid hg
      clear hg
      go_wp2_with fail
      go_ret
      exact ⟨ret_of (int_of (HV5.out HF.out HG0.out HG1.out HG2.out HG3.out HG4.out)),HW5.out⟩
end
section
variable (w:World)
theorem CF.size (c:CF):c.cells.toArray.size=15:=rfl
structure CFc (W:World) (g:Nat) (c:CF):Prop where
 c0:W.cell? ⟨g,0,none⟩=some (.int .i64 c.cen)
 c1:W.cell? ⟨g,1,none⟩=some (.slice c.D c.dis.length c.cD)
 c2:W.cell? ⟨g,2,none⟩=some (.slice c.E c.edg.length c.cE)
 c3:W.cell? ⟨g,3,none⟩=some (.slice c.U c.uni.length c.cU)
 c4:W.cell? ⟨g,4,none⟩=some (.slice c.P c.pla.length c.cP)
 c5:W.cell? ⟨g,5,none⟩=some (.int .i64 c.h0)
 c6:W.cell? ⟨g,6,none⟩=some (.int .i64 c.h1)
 c7:W.cell? ⟨g,7,none⟩=some (.int .i64 c.h2)
 c8:W.cell? ⟨g,8,none⟩=some (.int .i64 c.h3)
 c9:W.cell? ⟨g,9,none⟩=some (.int .i64 c.h4)
 c10:W.cell? ⟨g,10,none⟩=some (.int .i64 c.h5)
 c11:W.cell? ⟨g,11,none⟩=some (.int .i64 c.h6)
 c12:W.cell? ⟨g,12,none⟩=some (.int .i64 c.h7)
 c13:W.cell? ⟨g,13,none⟩=some (.int .i64 c.h8)
 c14:W.cell? ⟨g,14,none⟩=some (.int .i64 c.h9)
 lt:g<W.heap.size
theorem cfc {W:World} {g:Nat} {c:CF} (h:Blk W g 27 c.cells.toArray):CFc W g c :=
 ⟨h.at_ 0,h.at_ 1,h.at_ 2,h.at_ 3,h.at_ 4,h.at_ 5,h.at_ 6,h.at_ 7,h.at_ 8,h.at_ 9,h.at_ 10,h.at_ 11,h.at_ 12,h.at_ 13,h.at_ 14,h.lt⟩
theorem edgesB_no1 {c:CF} (h:c.edg.all (edgeB c.dis.length)=false):edgesB c=false:=by rw [edgesB,h];rfl
theorem edgesB_no2 {c:CF} (h:16384<(c.edg.length:Int)):edgesB c=false:=by rw [edgesB,decide_eq_false (by omega),Bool.and_false]
theorem edgesB_ok {c:CF} (h:c.edg.all (edgeB c.dis.length)=true) (h2:(c.edg.length:Int)≤16384):edgesB c=true:=by rw [edgesB,h,decide_eq_true (by omega)];rfl
theorem unitsB_no1 {c:CF} (h:c.uni.all (unitB c.cen c.dis.length)=false):unitsB c=false:=by rw [unitsB,h];rfl
theorem unitsB_no2 {c:CF} (h:256<(c.uni.length:Int)):unitsB c=false:=by rw [unitsB,decide_eq_false (by omega),Bool.and_false]
theorem unitsB_ok {c:CF} (h:c.uni.all (unitB c.cen c.dis.length)=true) (h2:(c.uni.length:Int)≤256):unitsB c=true:=by rw [unitsB,h,decide_eq_true (by omega)];rfl
theorem plansB_no1 {l:List PL} {k:Nat} (hk:k<l.length) (h:64≤(k:Int)):plansB l=false:=by rw [plansB,decide_eq_false (by omega)];rfl
theorem plansB_no2 {l:List PL} {k:Nat} (hk:k<l.length) (h:upB l k=false):plansB l=false:=by rw [plansB,range_no hk h,Bool.and_false]
theorem plansB_ok {l:List PL} (h:(List.range l.length).all (upB l)=true) (h2:l.length≤64):plansB l=true:=by rw [plansB,h,decide_eq_true h2];rfl
def numCells (c:CF):Array Value:=#[.int .i64 c.h0,.int .i64 c.h1,.int .i64 c.h2,.int .i64 c.h3,.int .i64 c.h4,.int .i64 c.h5,.int .i64 c.h6,.int .i64 c.h7,.int .i64 c.h8,.int .i64 c.h9]
theorem num_row (c:CF) {k:Nat} {lo hi:Int} (h:parLH[k]? = some (lo,hi)):∃ x,(parsL c)[k]? = some (lo,hi,x)∧(numCells c)[k]? = some (.int .i64 x):=by
 have hk:k<10:=(List.getElem?_eq_some_iff.1 h).1
 obtain rfl | rfl | rfl | rfl | rfl | rfl | rfl | rfl | rfl | rfl:k=0∨k=1∨k=2∨k=3∨k=4∨k=5∨k=6∨k=7∨k=8∨k=9:=by omega
 all_goals (cases Option.some.inj h;exact ⟨_,rfl,rfl⟩)
theorem lh_low {k:Nat} (h:k<6):parLH[k]? = some (1,1048576):=by
 obtain rfl | rfl | rfl | rfl | rfl | rfl:k=0∨k=1∨k=2∨k=3∨k=4∨k=5:=by omega
 all_goals rfl
set_option maxRecDepth 100000 in
set_option maxHeartbeats 16000000 in
theorem right_any (c:CF) (hm:CM w c):Calls Tryz.prog 58 #[.agg c.cells.toArray] w fun e w'=>e=.returned (.int .i64 (vnum c))∧Same w w':=by
 have hb0:=Blk.made w 27 c.cells.toArray
 have hw0:=(Keep.refl (fun _=>False) w).alloc (.cells c.cells.toArray 27)
 have HB:=hid (fun W (hk:Same (w.alloc (.cells c.cells.toArray 27)) W)=>cfc (hb0.keep (S:=fun _=>False) hk (fun f=>f)))
 have HW:=hid hw0
 have HM:=hid hm
 have HED:=hid (fun W e=>edge_any W c e)
 have HUN:=hid (fun W e=>unit_any W c e)
 have HPL:=hid (fun W p=>plan_any W p)
 have HNU:=hid (fun W=>numbers_any W c)
 have HWI:=hid within_any
 clear hm
 have hb1:=cfc hb0
 clear hb0 hw0
 obtain ⟨cen,D,cD,dis,E,cE,edg,U,cU,uni,P,cP,pla,h0,h1,h2,h3,h4,h5,h6,h7,h8,h9⟩:=c
 obtain ⟨c0,c1,c2,c3,c4,c5,c6,c7,c8,c9,c10,c11,c12,c13,c14,hg⟩:=hb1
 simp only [CF.cells,E3.cells,PL.cells] at *
 by_cases k1:1≤cen
 rotate_left 1
 ·go_enter Tryz.func58,Tryz.ntmps58
  go_wp2_with fail
  go_ret
  exact ⟨ret_of (int_of (vnum1 (.inl (show ¬1≤cen by omega)))),HW.out⟩
 by_cases k2:cen≤9
 rotate_left 1
 ·go_enter Tryz.func58,Tryz.ntmps58
  go_wp2_with fail
  go_ret
  exact ⟨ret_of (int_of (vnum1 (.inr (show ¬cen≤9 by omega)))),HW.out⟩
 by_cases k3:1≤(dis.length:Int)
 rotate_left 1
 ·go_enter Tryz.func58,Tryz.ntmps58
  go_wp2_with fail
  go_ret
  exact ⟨ret_of (int_of (vnum2 k1 k2 (.inl (show ¬1≤(dis.length:Int) by omega)))),HW.out⟩
 by_cases k4:(dis.length:Int)≤4096
 rotate_left 1
 ·go_enter Tryz.func58,Tryz.ntmps58
  go_wp2_with fail
  go_ret
  exact ⟨ret_of (int_of (vnum2 k1 k2 (.inr (show ¬(dis.length:Int)≤4096 by omega)))),HW.out⟩
 have HF:=hid (show VB4 ⟨cen,D,cD,dis,E,cE,edg,U,cU,uni,P,cP,pla,h0,h1,h2,h3,h4,h5,h6,h7,h8,h9⟩ from ⟨k1,k2,k3,k4⟩)
 go_enter Tryz.func58,Tryz.ntmps58
 go_wp2_with fail
 generalize hw1:w.alloc (.cells #[.int .i64 cen,.slice D dis.length cD,.slice E edg.length cE,.slice U uni.length cU,.slice P pla.length cP,.int .i64 h0,.int .i64 h1,.int .i64 h2,.int .i64 h3,.int .i64 h4,.int .i64 h5,.int .i64 h6,.int .i64 h7,.int .i64 h8,.int .i64 h9] 27)=w1 at *
 clear hw1
 go_loopw [38] (fun i wr=>∃ k:Nat,k≤dis.length∧i=.int .i64 k∧wr=w1∧Hid ((dis.take k).all (fun d=>inB d cen)=true)) (fun i _=>dis.length - (RowKit.intOf i).toNat)
 case atStart=>exact ⟨0,by omega,rfl,rfl,hid (by simp)⟩
 case round =>
  obtain ⟨k,hk,rfl,rfl,HI⟩:=hrel
  by_cases hlt:k<dis.length
  ·obtain ⟨a,ha⟩:=get_some (l:=dis) (k:=k) hlt
   obtain ⟨b,off,rfl,hb3,q0⟩:=ints_at (HM.out.same HW.out).dis ha
   have HT:=hid (take_all (p:=fun d=>inB d cen) ha)
   have HNo:=hid (fun hp=>all_no (p:=fun d=>inB d cen) ha hp)
   have hk1:(k:Int)<(dis.length:Int):=by omega
   clear ha
   by_cases i1:a<0
   ·go_wp2_with fail
    go_ret
    exact ⟨ret_of (int_of (vnum3 HF.out (HNo.out (by simp [inB];omega)))),HW.out⟩
   ·by_cases i2:cen≤a
    ·go_wp2_with fail
     go_ret
     exact ⟨ret_of (int_of (vnum3 HF.out (HNo.out (by simp [inB];omega)))),HW.out⟩
    ·go_upto_region 10 with fail
     have hk2:(k:Int)+1≤9223372036854775807:=by have:=k4;omega
     go_wp2_with fail
     go_roundw
     case rel=>exact ⟨k+1,by omega,by go_num,by trivial,hid (by rw [HT.out,HI.out];simp [inB];omega)⟩
     case measure=>simp [RowKit.intOf];omega
  ·have e1:dis.take k=dis:=List.take_of_length_le (by omega)
   have hk1:(dis.length:Int)≤(k:Int):=by omega
   have hh2:=HI.out
   rw [e1] at hh2
   have HG0:=hid (show disB ⟨cen,D,cD,dis,E,cE,edg,U,cU,uni,P,cP,pla,h0,h1,h2,h3,h4,h5,h6,h7,h8,h9⟩=true from hh2)
   clear hh2 e1 HI
   go_wp2_with fail
   clear hlt hk1 hk
   obtain ⟨w1,hw1⟩:∃ x,x=wr:=⟨_,rfl⟩
   subst hw1
   go_loopw [54] (fun i wr=>∃ k:Nat,k≤edg.length∧i=.int .i64 k∧Hid (Same w1 wr∧(edg.take k).all (edgeB dis.length)=true)) (fun i _=>edg.length - (RowKit.intOf i).toNat)
   case atStart=>exact ⟨0,by omega,rfl,hid ⟨Keep.refl _ _,by simp⟩⟩
   case round =>
    obtain ⟨k,hk,rfl,HI⟩:=hrel
    clear c0 c1 c2 c3 c4 c5 c6 c7 c8 c9 c10 c11 c12 c13 c14 hg
    obtain ⟨c0,c1,c2,c3,c4,c5,c6,c7,c8,c9,c10,c11,c12,c13,c14,hg⟩:=HB.out wr HI.out.1
    simp only at c0 c1 c2 c3 c4 c5 c6 c7 c8 c9 c10 c11 c12 c13 c14
    by_cases hlt:k<edg.length
    ·obtain ⟨a,ha⟩:=get_some (l:=edg) (k:=k) hlt
     obtain ⟨b,off,rfl,hb3,q0,q1,q2⟩:=e3_at (HM.out.same (HW.out.then HI.out.1)).edg ha
     have HT:=hid (take_all (p:=edgeB dis.length) ha)
     have HNo:=hid (fun hp=>all_no (p:=edgeB dis.length) ha hp)
     have hk1:(k:Int)<(edg.length:Int):=by omega
     clear ha
     have HX:=hid (fun W=>HED.out W a)
     by_cases i1:(edgeB dis.length) a=true
     ·go_upto_region 16 with (go_at_call 96;(with_reducible refine (HX.out _).mono ?_);rintro e w9 ⟨rfl,hs9⟩;rw [i1];have HS9:=hid hs9;clear hs9)
      have hk2:(k:Int)+1≤9223372036854775807:=by have hl0:edg.length≤maxLen:=HM.out.lE;unfold maxLen at hl0;omega
      go_wp2_with fail
      go_roundw
      case rel=>exact ⟨k+1,by omega,by go_num,hid ⟨(HI.out.1.alloc _).then HS9.out,by rw [HT.out,HI.out.2,i1];rfl⟩⟩
      case measure=>simp [RowKit.intOf];omega
     ·have i1':(edgeB dis.length) a=false:=by simpa using i1
      clear i1
      go_wp2_with (go_at_call 96;(with_reducible refine (HX.out _).mono ?_);rintro e w9 ⟨rfl,hs9⟩;rw [i1'];have HS9:=hid hs9;clear hs9)
      go_ret
      exact ⟨ret_of (int_of (vnum4 HF.out HG0.out (edgesB_no1 (HNo.out i1')))),HW.out.then ((HI.out.1.alloc _).then HS9.out)⟩
    ·have e1:edg.take k=edg:=List.take_of_length_le (by omega)
     have hk1:(edg.length:Int)≤(k:Int):=by omega
     have hh2:=HI.out.2
     rw [e1] at hh2
     have H2:=hid hh2
     clear hh2 e1
     by_cases hmax:16384<(edg.length:Int)
     ·go_wp2_with fail
      go_ret
      exact ⟨ret_of (int_of (vnum4 HF.out HG0.out (edgesB_no2 (c:=⟨cen,D,cD,dis,E,cE,edg,U,cU,uni,P,cP,pla,h0,h1,h2,h3,h4,h5,h6,h7,h8,h9⟩) hmax))),HW.out.then HI.out.1⟩
     ·have HG1:=hid (edgesB_ok (c:=⟨cen,D,cD,dis,E,cE,edg,U,cU,uni,P,cP,pla,h0,h1,h2,h3,h4,h5,h6,h7,h8,h9⟩) H2.out (show (edg.length:Int)≤16384 by omega))
      have hw2:=HI.out.1
      have HW2:=hid (HW.out.then hw2)
      have HB2:=hid (fun W (hk:Same wr W)=>HB.out W (hw2.then hk))
      clear HB H2 HI HW hw2
      go_wp2_with fail
      clear hlt hk1 hk
      obtain ⟨w1,hw1⟩:∃ x,x=wr:=⟨_,rfl⟩
      subst hw1
      have HB:=HB2
      have HW:=HW2
      clear HB2 HW2
      go_loopw [70] (fun i wr=>∃ k:Nat,k≤uni.length∧i=.int .i64 k∧Hid (Same w1 wr∧(uni.take k).all (unitB cen dis.length)=true)) (fun i _=>uni.length - (RowKit.intOf i).toNat)
      case atStart=>exact ⟨0,by omega,rfl,hid ⟨Keep.refl _ _,by simp⟩⟩
      case round =>
       obtain ⟨k,hk,rfl,HI⟩:=hrel
       clear c0 c1 c2 c3 c4 c5 c6 c7 c8 c9 c10 c11 c12 c13 c14 hg
       obtain ⟨c0,c1,c2,c3,c4,c5,c6,c7,c8,c9,c10,c11,c12,c13,c14,hg⟩:=HB.out wr HI.out.1
       simp only at c0 c1 c2 c3 c4 c5 c6 c7 c8 c9 c10 c11 c12 c13 c14
       by_cases hlt:k<uni.length
       ·obtain ⟨a,ha⟩:=get_some (l:=uni) (k:=k) hlt
        obtain ⟨b,off,rfl,hb3,q0,q1,q2⟩:=e3_at (HM.out.same (HW.out.then HI.out.1)).uni ha
        have HT:=hid (take_all (p:=unitB cen dis.length) ha)
        have HNo:=hid (fun hp=>all_no (p:=unitB cen dis.length) ha hp)
        have hk1:(k:Int)<(uni.length:Int):=by omega
        clear ha
        have HX:=hid (fun W=>HUN.out W a)
        by_cases i1:(unitB cen dis.length) a=true
        ·go_upto_region 24 with (go_at_call 97;(with_reducible refine (HX.out _).mono ?_);rintro e w9 ⟨rfl,hs9⟩;rw [i1];have HS9:=hid hs9;clear hs9)
         have hk2:(k:Int)+1≤9223372036854775807:=by have hl0:uni.length≤maxLen:=HM.out.lU;unfold maxLen at hl0;omega
         go_wp2_with fail
         go_roundw
         case rel=>exact ⟨k+1,by omega,by go_num,hid ⟨(HI.out.1.alloc _).then HS9.out,by rw [HT.out,HI.out.2,i1];rfl⟩⟩
         case measure=>simp [RowKit.intOf];omega
        ·have i1':(unitB cen dis.length) a=false:=by simpa using i1
         clear i1
         go_wp2_with (go_at_call 97;(with_reducible refine (HX.out _).mono ?_);rintro e w9 ⟨rfl,hs9⟩;rw [i1'];have HS9:=hid hs9;clear hs9)
         go_ret
         exact ⟨ret_of (int_of (vnum5 HF.out HG0.out HG1.out (unitsB_no1 (HNo.out i1')))),HW.out.then ((HI.out.1.alloc _).then HS9.out)⟩
       ·have e1:uni.take k=uni:=List.take_of_length_le (by omega)
        have hk1:(uni.length:Int)≤(k:Int):=by omega
        have hh2:=HI.out.2
        rw [e1] at hh2
        have H2:=hid hh2
        clear hh2 e1
        by_cases hmax:256<(uni.length:Int)
        ·go_wp2_with fail
         go_ret
         exact ⟨ret_of (int_of (vnum5 HF.out HG0.out HG1.out (unitsB_no2 (c:=⟨cen,D,cD,dis,E,cE,edg,U,cU,uni,P,cP,pla,h0,h1,h2,h3,h4,h5,h6,h7,h8,h9⟩) hmax))),HW.out.then HI.out.1⟩
        ·have HG2:=hid (unitsB_ok (c:=⟨cen,D,cD,dis,E,cE,edg,U,cU,uni,P,cP,pla,h0,h1,h2,h3,h4,h5,h6,h7,h8,h9⟩) H2.out (show (uni.length:Int)≤256 by omega))
         have hw2:=HI.out.1
         have HW2:=hid (HW.out.then hw2)
         have HB2:=hid (fun W (hk:Same wr W)=>HB.out W (hw2.then hk))
         clear HB H2 HI HW hw2
         go_wp2_with fail
         clear hlt hk1 hk
         obtain ⟨w1,hw1⟩:∃ x,x=wr:=⟨_,rfl⟩
         subst hw1
         have HB:=HB2
         have HW:=HW2
         clear HB2 HW2
         go_loopw [86] (fun i wr=>∃ k:Nat,k≤pla.length∧i=.int .i64 k∧Hid (Same w1 wr∧(List.range k).all (upB pla)=true∧k≤64)) (fun i _=>pla.length - (RowKit.intOf i).toNat)
         case atStart=>exact ⟨0,by omega,rfl,hid ⟨Keep.refl _ _,by simp,by omega⟩⟩
         case round =>
          obtain ⟨k,hk,rfl,HI⟩:=hrel
          clear c0 c1 c2 c3 c4 c5 c6 c7 c8 c9 c10 c11 c12 c13 c14 hg
          obtain ⟨c0,c1,c2,c3,c4,c5,c6,c7,c8,c9,c10,c11,c12,c13,c14,hg⟩:=HB.out wr HI.out.1
          simp only at c0 c1 c2 c3 c4 c5 c6 c7 c8 c9 c10 c11 c12 c13 c14
          have HN:=hid (show pla.length≤maxLen from HM.out.lP)
          have HCP:=hid (show pla.length≤cP from HM.out.capP)
          by_cases hlt:k<pla.length
          ·obtain ⟨a,ha⟩:=get_some (l:=pla) (k:=k) hlt
           obtain ⟨b,off,rfl,hb3,q0,q1,q2⟩:=pl_at (HM.out.same (HW.out.then HI.out.1)).pla ha
           have HU:=hid (upB_at ha)
           have hpk:=(plans_at HM.out ha).same (HW.out.then HI.out.1)
           have hk1:(k:Int)<(pla.length:Int):=by omega
           obtain ⟨code,urg,K,cc,kinds⟩:=a
           simp only at q0 q1 q2
           have HX:=hid (fun W (hk:Same wr W)=>HPL.out W ⟨code,urg,K,cc,kinds⟩ (hpk.same hk))
           simp only at HX
           have HDF:=hid (show ∀ q,diffB ⟨code,urg,K,cc,kinds⟩ q = !(q.code.toList == code.toList && q.urg == urg) from fun q=>rfl)
           generalize hqb:planB ⟨code,urg,K,cc,kinds⟩=qb at *
           generalize hdf:diffB ⟨code,urg,K,cc,kinds⟩=df at *
           clear ha hpk hqb hdf
           by_cases h64:64≤(k:Int)
           ·go_wp2_with fail
            go_ret
            exact ⟨ret_of (int_of (vnum6 HF.out HG0.out HG1.out HG2.out (plansB_no1 hlt h64))),HW.out.then (HI.out.1.alloc _)⟩
           ·cases qb
            ·go_wp2_with (go_at_call 98;(with_reducible refine (HX.out _ (Keep.alloc (Keep.refl _ _) _)).mono ?_);rintro e w9 ⟨rfl,hs9⟩;have HS9:=hid hs9;clear hs9)
             go_ret
             exact ⟨ret_of (int_of (vnum6 HF.out HG0.out HG1.out HG2.out (plansB_no2 hlt (by rw [HU.out];rfl)))),HW.out.then ((HI.out.1.alloc _).then HS9.out)⟩
            ·have hkc:(k:Int)≤(cP:Int):=by have:=HCP.out;omega
             go_upto_region 32 with (go_at_call 98;(with_reducible refine (HX.out _ (Keep.alloc (Keep.refl _ _) _)).mono ?_);rintro e w9 ⟨rfl,hs9⟩;have HS9:=hid hs9;have HK9:=hid ((HI.out.1.alloc _).then hs9);have HBO:=hid ((Blk.made wr 146 #[.string code,.int .i64 urg,.slice K kinds.length cc]).keep (S:=fun _=>False) hs9 (fun f=>f));clear hs9)
             have HM9:=hid (HM.out.same (HW.out.then HK9.out))
             have hgs:w.heap.size<w9.heap.size:=by have:=(HB.out w9 HK9.out).lt;exact this
             clear c0 c1 c2 c3 c4 c5 c6 c7 c8 c9 c10 c11 c12 c13 c14 hg
             obtain ⟨c0,c1,c2,c3,c4,c5,c6,c7,c8,c9,c10,c11,c12,c13,c14,hg⟩:=HB.out w9 HK9.out
             simp only at c0 c1 c2 c3 c4 c5 c6 c7 c8 c9 c10 c11 c12 c13 c14
             clear q0 q1 q2 hgs
             go_wp2_with fail
             go_loopw [103] (fun i wr=>∃ m:Nat,m≤k∧i=.int .i64 m∧Hid (Same w9 wr∧((pla.take k).take m).all df=true)) (fun i _=>k - (RowKit.intOf i).toNat)
             case atStart=>exact ⟨0,by omega,rfl,hid ⟨Keep.refl _ _,by simp⟩⟩
             case round =>
              obtain ⟨m,hm,rfl,HV⟩:=hrel
              have HBW:=hid (HBO.out.keep (S:=fun _=>False) HV.out.1 (fun f=>f))
              have d0:=HBW.out.at_ 0
              have d1:=HBW.out.at_ 1
              simp at d0 d1
              have hlq:=HBW.out.lt
              by_cases hltm:m<k
              ·obtain ⟨q,hq⟩:=get_some (l:=pla) (k:=m) (by omega)
               obtain ⟨b5,off5,e5,hb5,s0,s1,s2⟩:=pl_at (HM9.out.same HV.out.1).pla hq
               injection e5 with e5
               injection e5 with e5 e6
               subst e5 e6
               have hq2:(pla.take k)[m]? = some q:=by rw [List.getElem?_take,if_pos hltm];exact hq
               have HT:=hid (take_all (p:=df) hq2)
               have HDo:=hid (fun hp=>all_no (p:=df) hq2 hp)
               have HDQ:=hid (HDF.out q)
               have hm1:(m:Int)<(k:Int):=by omega
               clear hq hq2
               obtain ⟨qc,qu,qK,qcc,qk⟩:=q
               simp only at s0 s1 s2 HDQ
               by_cases j1:(qc.toList == code.toList)=true
               ·by_cases j2:(qu == urg)=true
                ·go_wp2_with fail
                 go_ret
                 exact ⟨ret_of (int_of (vnum6 HF.out HG0.out HG1.out HG2.out (plansB_no2 hlt (by rw [HU.out,HDo.out (by rw [HDQ.out,j1,j2];rfl)];rfl)))),HW.out.then ((HK9.out.then HV.out.1).alloc _)⟩
                ·have j3:(qu == urg)=false:=by simpa using j2
                 clear j2
                 go_upto_region 37 with fail
                 have hm2:(m:Int)+1≤9223372036854775807:=by have:=HN.out;unfold maxLen at this;omega
                 go_wp2_with fail
                 go_roundw
                 case rel=>exact ⟨m+1,by omega,by go_num,hid ⟨HV.out.1.alloc _,by rw [HT.out,HV.out.2,HDQ.out,j1,j3];rfl⟩⟩
                 case measure=>simp [RowKit.intOf];omega
               ·have j3:(qc.toList == code.toList)=false:=by simpa using j1
                clear j1
                go_upto_region 37 with fail
                have hm2:(m:Int)+1≤9223372036854775807:=by have:=HN.out;unfold maxLen at this;omega
                go_wp2_with fail
                go_roundw
                case rel=>exact ⟨m+1,by omega,by go_num,hid ⟨HV.out.1.alloc _,by rw [HT.out,HV.out.2,HDQ.out,j3];rfl⟩⟩
                case measure=>simp [RowKit.intOf];omega
              ·obtain rfl:m=k:=by omega
               have HUP:=hid (show upB pla m=true by have:=HV.out.2;rw [List.take_of_length_le (by simp;omega)] at this;rw [HU.out,this];rfl)
               go_upto_region 38 with fail
               have hk2:(m:Int)+1≤9223372036854775807:=by omega
               go_wp2_with fail
               go_roundw
               case rel=>exact ⟨m+1,by omega,by go_num,hid ⟨HK9.out.then HV.out.1,by rw [range_snoc,HI.out.2.1,HUP.out];rfl,by omega⟩⟩
               case measure=>simp [RowKit.intOf];omega
          ·have hk1:(pla.length:Int)≤(k:Int):=by omega
           obtain rfl:k=pla.length:=by omega
           have HG3:=hid (plansB_ok HI.out.2.1 HI.out.2.2)
           have hw2:=HI.out.1
           have HW2:=hid (HW.out.then hw2)
           have HB2:=hid (fun W (hk:Same wr W)=>HB.out W (hw2.then hk))
           clear HB HI HW hw2
           go_upto_region 39 with fail
           clear hlt hk1 hk
           obtain ⟨w1,hw1⟩:∃ x,x=wr:=⟨_,rfl⟩
           subst hw1
           have HB:=HB2
           have HW:=HW2
           clear HB2 HW2
           have hpb:parB ⟨cen,D,cD,dis,E,cE,edg,U,cU,uni,P,cP,pla,h0,h1,h2,h3,h4,h5,h6,h7,h8,h9⟩=(parsL ⟨cen,D,cD,dis,E,cE,edg,U,cU,uni,P,cP,pla,h0,h1,h2,h3,h4,h5,h6,h7,h8,h9⟩).all (fun x=>rngB x.1 x.2.1 x.2.2):=rfl
           have HPB:=hid hpb
           have HP:=hid (fun k a (ha:(parsL ⟨cen,D,cD,dis,E,cE,edg,U,cU,uni,P,cP,pla,h0,h1,h2,h3,h4,h5,h6,h7,h8,h9⟩)[k]? = some a)=>And.intro (take_all (p:=fun x=>rngB x.1 x.2.1 x.2.2) ha) (all_no (p:=fun x=>rngB x.1 x.2.1 x.2.2) ha))
           have HPL2:=hid (show (parsL ⟨cen,D,cD,dis,E,cE,edg,U,cU,uni,P,cP,pla,h0,h1,h2,h3,h4,h5,h6,h7,h8,h9⟩).length=10 from rfl)
           have HNR:=hid (fun k lo hi (h:parLH[k]? = some (lo,hi))=>num_row ⟨cen,D,cD,dis,E,cE,edg,U,cU,uni,P,cP,pla,h0,h1,h2,h3,h4,h5,h6,h7,h8,h9⟩ h)
           have HNC:=hid (show numCells ⟨cen,D,cD,dis,E,cE,edg,U,cU,uni,P,cP,pla,h0,h1,h2,h3,h4,h5,h6,h7,h8,h9⟩=#[.int .i64 h0,.int .i64 h1,.int .i64 h2,.int .i64 h3,.int .i64 h4,.int .i64 h5,.int .i64 h6,.int .i64 h7,.int .i64 h8,.int .i64 h9] from rfl)
           clear hpb
           generalize numCells ⟨cen,D,cD,dis,E,cE,edg,U,cU,uni,P,cP,pla,h0,h1,h2,h3,h4,h5,h6,h7,h8,h9⟩=NC at *
           generalize parsL ⟨cen,D,cD,dis,E,cE,edg,U,cU,uni,P,cP,pla,h0,h1,h2,h3,h4,h5,h6,h7,h8,h9⟩=L at *
           try simp only at HNU
           go_wp2_with (go_at_call 99;(with_reducible refine (HNU.out _).mono ?_);rintro e w2 ⟨⟨gq,rfl,hgq,hbq⟩,hs2⟩;have HS2:=hid hs2;have HBQ:=hid hbq;clear hs2 hbq hgq)
           clear c0 c1 c2 c3 c4 c5 c6 c7 c8 c9 c10 c11 c12 c13 c14 hg HNU HPL HUN HED HM HB
           rw [←HNC.out] at HBQ
           clear HNC
           go_loopw [124] (fun i wr=>∃ k:Nat,k≤10∧i=.int .i64 k∧Hid (Same w2 wr∧(L.take k).all (fun x=>rngB x.1 x.2.1 x.2.2)=true)) (fun i _=>10 - (RowKit.intOf i).toNat)
           case atStart=>exact ⟨0,by omega,rfl,hid ⟨Keep.refl _ _,by simp⟩⟩
           case round =>
            obtain ⟨k,hk,rfl,HI⟩:=hrel
            by_cases hlt:k<10
            ·by_cases hlow:k<6
             ·obtain ⟨x,hx1,hx2⟩:=HNR.out k _ _ (lh_low hlow)
              have f6:((k:Int) == 6)=false:=by simp;omega
              have f7:((k:Int) == 7)=false:=by simp;omega
              have f8:((k:Int) == 8)=false:=by simp;omega
              have f9:((k:Int) == 9)=false:=by simp;omega
              have HX:=hid (HP.out _ _ hx1)
              have hbw:=HBQ.out.keep (S:=fun _=>False) HI.out.1 (fun f=>f)
              have q0:=(hbw.at_ _).trans hx2
              have hgl:=hbw.lt
              clear hbw hx1 hx2
              by_cases i1:rngB 1 1048576 x=true
              ·go_upto_region 53 with (go_at_call 100;(with_reducible refine (HWI.out _ _ _ _).mono ?_);rintro e w9 ⟨rfl,rfl⟩;rw [i1])
               go_wp2_with fail
               go_roundw
               case rel=>exact ⟨k+1,by omega,by first | rfl | go_num,hid ⟨HI.out.1,HX.out.1.trans (by rw [HI.out.2];exact i1)⟩⟩
               case measure=>simp [RowKit.intOf] <;> omega
              ·have i2:rngB 1 1048576 x=false:=by simpa using i1
               clear i1
               go_wp2_with (go_at_call 100;(with_reducible refine (HWI.out _ _ _ _).mono ?_);rintro e w9 ⟨rfl,rfl⟩;rw [i2])
               go_ret
               exact ⟨ret_of (int_of (vnum7 HF.out HG0.out HG1.out HG2.out HG3.out (by rw [HPB.out];exact HX.out.2 i2))),HW.out.then (HS2.out.then HI.out.1)⟩
             ·obtain rfl | rfl | rfl | rfl:k=6∨k=7∨k=8∨k=9:=by omega
              ·obtain ⟨x,hx1,hx2⟩:=HNR.out 6 _ _ rfl
               have HX:=hid (HP.out _ _ hx1)
               have hbw:=HBQ.out.keep (S:=fun _=>False) HI.out.1 (fun f=>f)
               have q0:=(hbw.at_ _).trans hx2
               have hgl:=hbw.lt
               clear hbw hx1 hx2
               by_cases i1:rngB 0 1099511627776 x=true
               ·go_upto_region 53 with (go_at_call 100;(with_reducible refine (HWI.out _ _ _ _).mono ?_);rintro e w9 ⟨rfl,rfl⟩;rw [i1])
                go_wp2_with fail
                go_roundw
                case rel=>exact ⟨7,by omega,by first | rfl | go_num,hid ⟨HI.out.1,HX.out.1.trans (by rw [HI.out.2];exact i1)⟩⟩
                case measure=>simp [RowKit.intOf] <;> omega
               ·have i2:rngB 0 1099511627776 x=false:=by simpa using i1
                clear i1
                go_wp2_with (go_at_call 100;(with_reducible refine (HWI.out _ _ _ _).mono ?_);rintro e w9 ⟨rfl,rfl⟩;rw [i2])
                go_ret
                exact ⟨ret_of (int_of (vnum7 HF.out HG0.out HG1.out HG2.out HG3.out (by rw [HPB.out];exact HX.out.2 i2))),HW.out.then (HS2.out.then HI.out.1)⟩
              ·obtain ⟨x,hx1,hx2⟩:=HNR.out 7 _ _ rfl
               have HX:=hid (HP.out _ _ hx1)
               have hbw:=HBQ.out.keep (S:=fun _=>False) HI.out.1 (fun f=>f)
               have q0:=(hbw.at_ _).trans hx2
               have hgl:=hbw.lt
               clear hbw hx1 hx2
               by_cases i1:rngB 0 1099511627776 x=true
               ·go_upto_region 53 with (go_at_call 100;(with_reducible refine (HWI.out _ _ _ _).mono ?_);rintro e w9 ⟨rfl,rfl⟩;rw [i1])
                go_wp2_with fail
                go_roundw
                case rel=>exact ⟨8,by omega,by first | rfl | go_num,hid ⟨HI.out.1,HX.out.1.trans (by rw [HI.out.2];exact i1)⟩⟩
                case measure=>simp [RowKit.intOf] <;> omega
               ·have i2:rngB 0 1099511627776 x=false:=by simpa using i1
                clear i1
                go_wp2_with (go_at_call 100;(with_reducible refine (HWI.out _ _ _ _).mono ?_);rintro e w9 ⟨rfl,rfl⟩;rw [i2])
                go_ret
                exact ⟨ret_of (int_of (vnum7 HF.out HG0.out HG1.out HG2.out HG3.out (by rw [HPB.out];exact HX.out.2 i2))),HW.out.then (HS2.out.then HI.out.1)⟩
              ·obtain ⟨x,hx1,hx2⟩:=HNR.out 8 _ _ rfl
               have HX:=hid (HP.out _ _ hx1)
               have hbw:=HBQ.out.keep (S:=fun _=>False) HI.out.1 (fun f=>f)
               have q0:=(hbw.at_ _).trans hx2
               have hgl:=hbw.lt
               clear hbw hx1 hx2
               by_cases i1:rngB 0 256 x=true
               ·go_upto_region 53 with (go_at_call 100;(with_reducible refine (HWI.out _ _ _ _).mono ?_);rintro e w9 ⟨rfl,rfl⟩;rw [i1])
                go_wp2_with fail
                go_roundw
                case rel=>exact ⟨9,by omega,by first | rfl | go_num,hid ⟨HI.out.1,HX.out.1.trans (by rw [HI.out.2];exact i1)⟩⟩
                case measure=>simp [RowKit.intOf] <;> omega
               ·have i2:rngB 0 256 x=false:=by simpa using i1
                clear i1
                go_wp2_with (go_at_call 100;(with_reducible refine (HWI.out _ _ _ _).mono ?_);rintro e w9 ⟨rfl,rfl⟩;rw [i2])
                go_ret
                exact ⟨ret_of (int_of (vnum7 HF.out HG0.out HG1.out HG2.out HG3.out (by rw [HPB.out];exact HX.out.2 i2))),HW.out.then (HS2.out.then HI.out.1)⟩
              ·obtain ⟨x,hx1,hx2⟩:=HNR.out 9 _ _ rfl
               have HX:=hid (HP.out _ _ hx1)
               have hbw:=HBQ.out.keep (S:=fun _=>False) HI.out.1 (fun f=>f)
               have q0:=(hbw.at_ _).trans hx2
               have hgl:=hbw.lt
               clear hbw hx1 hx2
               by_cases i1:rngB 1 4096 x=true
               ·go_upto_region 53 with (go_at_call 100;(with_reducible refine (HWI.out _ _ _ _).mono ?_);rintro e w9 ⟨rfl,rfl⟩;rw [i1])
                go_wp2_with fail
                go_roundw
                case rel=>exact ⟨10,by omega,by first | rfl | go_num,hid ⟨HI.out.1,HX.out.1.trans (by rw [HI.out.2];exact i1)⟩⟩
                case measure=>simp [RowKit.intOf] <;> omega
               ·have i2:rngB 1 4096 x=false:=by simpa using i1
                clear i1
                go_wp2_with (go_at_call 100;(with_reducible refine (HWI.out _ _ _ _).mono ?_);rintro e w9 ⟨rfl,rfl⟩;rw [i2])
                go_ret
                exact ⟨ret_of (int_of (vnum7 HF.out HG0.out HG1.out HG2.out HG3.out (by rw [HPB.out];exact HX.out.2 i2))),HW.out.then (HS2.out.then HI.out.1)⟩
            ·obtain rfl:k=10:=by omega
             have hf:=HI.out.2
             rw [List.take_of_length_le (by rw [HPL2.out];omega),←HPB.out] at hf
             have HFN:=hid hf
             clear hf
             go_wp2_with fail
             go_ret
             exact ⟨ret_of (int_of (vnum0 HF.out HG0.out HG1.out HG2.out HG3.out HFN.out)),HW.out.then (HS2.out.then HI.out.1)⟩
end
section
variable (w:World)
def GreatPost (w:World) (c:CF) (e:Ending) (w':World):Prop:=∃ b:Bool,e=.returned (.bool b)∧(b=false→c.dis.length≤60∧c.edg.length≤60∧c.uni.length≤60∧c.pla.length≤70)∧Same w w'
def Few (c:CF):Prop:=∀ p∈c.pla,p.code.size≤140737488355328∧p.kinds.length≤140737488355328
set_option maxRecDepth 100000 in
set_option maxHeartbeats 8000000 in
theorem great_any (c:CF) (hm:CM w c) (hf:Few c):Calls Tryz.prog 33 #[.agg c.cells.toArray] w (GreatPost w c):=by
 have hb0:=Blk.made w 27 c.cells.toArray
 have hw0:=(Keep.refl (fun _=>False) w).alloc (.cells c.cells.toArray 27)
 have HB:=hid (fun W (hk:Same (w.alloc (.cells c.cells.toArray 27)) W)=>cfc (hb0.keep (S:=fun _=>False) hk (fun f=>f)))
 have HW:=hid hw0
 have HM:=hid (fun W (hk:Same w W)=>(hm.same hk).pla)
 have HF:=hid hf
 have HL:=hid hm.lP
 have hb1:=cfc hb0
 clear hb0 hw0 hm hf
 obtain ⟨cen,D,cD,dis,E,cE,edg,U,cU,uni,P,cP,pla,h0,h1,h2,h3,h4,h5,h6,h7,h8,h9⟩:=c
 obtain ⟨c0,c1,c2,c3,c4,c5,c6,c7,c8,c9,c10,c11,c12,c13,c14,hg⟩:=hb1
 simp only [CF.cells] at *
 go_enter Tryz.func33,Tryz.ntmps33
 go_wp2_with fail
 generalize w.alloc (.cells #[.int .i64 cen,.slice D dis.length cD,.slice E edg.length cE,.slice U uni.length cU,.slice P pla.length cP,.int .i64 h0,.int .i64 h1,.int .i64 h2,.int .i64 h3,.int .i64 h4,.int .i64 h5,.int .i64 h6,.int .i64 h7,.int .i64 h8,.int .i64 h9] 27)=w1 at *
 go_loopw [3,9] (fun n i wr=>∃ (k:Nat) (N:Int),k≤pla.length∧i=.int .i64 k∧n=.int .i64 N∧0≤N∧N≤4000∧Hid (Same w1 wr)) (fun _ i _=>pla.length - (RowKit.intOf i).toNat)
 case atStart=>exact ⟨0,0,by omega,rfl,rfl,by omega,by omega,hid (Keep.refl _ _)⟩
 case round =>
  obtain ⟨k,N,hk,rfl,rfl,hN0,hN1,HI⟩:=hrel
  by_cases hlt:k<pla.length
  ·obtain ⟨a,ha⟩:=get_some (l:=pla) (k:=k) hlt
   obtain ⟨b,off,rfl,hb3,q0,q1,q2⟩:=pl_at (HM.out wr (HW.out.then HI.out)) ha
   obtain ⟨hf1,hf2⟩:=HF.out a (List.mem_of_getElem? ha)
   obtain ⟨code,urg,K,cc,kinds⟩:=a
   simp only at q0 q1 q2 hf1 hf2
   have hk1:(k:Int)<(pla.length:Int):=by omega
   clear ha c0 c1 c2 c3 c4 c5 c6 c7 c8 c9 c10 c11 c12 c13 c14 hg
   by_cases hh4:4000<N+(code.size:Int)+(kinds.length:Int)
   ·go_wp2_with fail
    go_ret
    exact ⟨true,rfl,fun h=>(by cases h),HW.out.then (HI.out.alloc _)⟩
   ·go_upto_region 8 with fail
    have hk2:(k:Int)+1≤9223372036854775807:=by have:=HL.out;unfold maxLen at this;omega
    go_wp2_with fail
    go_roundw
    case rel=>exact ⟨k+1,N+(code.size:Int)+(kinds.length:Int),by omega,by go_num,by first | rfl | trivial,by omega,by omega,hid (HI.out.alloc _)⟩
    case measure=>simp [RowKit.intOf];omega
  ·have hk1:(pla.length:Int)≤(k:Int):=by omega
   clear c0 c1 c2 c3 c4 c5 c6 c7 c8 c9 c10 c11 c12 c13 c14 hg
   obtain ⟨c0,c1,c2,c3,c4,c5,c6,c7,c8,c9,c10,c11,c12,c13,c14,hg⟩:=HB.out wr HI.out
   simp only at c0 c1 c2 c3 c4 c5 c6 c7 c8 c9 c10 c11 c12 c13 c14
   clear c0 c5 c6 c7 c8 c9 c10 c11 c12 c13 c14 hlt hk hN0 hN1
   by_cases g1:60<(dis.length:Int)
   ·go_wp2_with fail
    go_ret
    exact ⟨true,by first | rfl | simp,fun h=>(by cases h),HW.out.then HI.out⟩
   ·by_cases g2:60<(edg.length:Int)
    ·go_wp2_with fail
     go_ret
     exact ⟨true,by first | rfl | simp,fun h=>(by cases h),HW.out.then HI.out⟩
    ·by_cases g3:60<(uni.length:Int)
     ·go_wp2_with fail
      go_ret
      exact ⟨true,by first | rfl | simp,fun h=>(by cases h),HW.out.then HI.out⟩
     ·by_cases g4:70<(pla.length:Int)
      ·go_wp2_with fail
       go_ret
       exact ⟨true,by first | rfl | simp,fun h=>(by cases h),HW.out.then HI.out⟩
      ·go_wp2_with fail
       go_ret
       exact ⟨false,by first | rfl | simp,fun _=>⟨show dis.length≤60 by omega,show edg.length≤60 by omega,show uni.length≤60 by omega,show pla.length≤70 by omega⟩,HW.out.then HI.out⟩
end
end Go.Proofs.YtbjddfiledoaoaaGreat

import Derived.Test.YtbjddfiledoaoaaGreatXD
import Derived.Test.YtbjddfiledoaoaaGreatConfF
namespace Go.Proofs.YtbjddfiledoaoaaGreat
open Go.RowKit
section
variable {w w' w7:World} {T T':Tags} {p:PS} {v':Value}
theorem PX.move0 (h:PX w T p) (m:Mv w T w' T' (fun _=>False)):PX w' T' p :=
 ⟨h.hdr.keep m.keep (fun f=>f),(m.old _ h.hdr.lt).trans h.tx,m.slice (fun _ f=>f.elim) h.dis,h.hold.move m (fun _ f=>f.elim),h.lines.move m (fun _ f=>f.elim),fun k x hx=>(h.recs k x hx).move m (fun _ f=>f.elim) (fun _ f=>f.elim),h.out.move m (fun _ f=>f.elim),fun y hy=>m.slice (fun _ f=>f.elim) (h.body y hy),h.ev.move m (fun _ f=>f.elim),m.lt⟩
theorem PX.grow_lines (h:PX w T p) {y:RA} (hr:RecAt w T p.R.length y) (hg:w.grownBy w7 p.lv.ownBlock) (ho:Own w7 0 107 1 v' (p.R.length+1) ((p.R++[y]).map RA.ptr)) (hw:v'.ownBlock=p.lv.ownBlock∨∃ g,v'.ownBlock=some g∧w.heap.size≤g) :
 PX (w7.setCell ⟨p.x,4,none⟩ v') (T.set v'.ownBlock .lines) { p with R:=p.R++[y],lv:=v' }∧Mv w T (w7.setCell ⟨p.x,4,none⟩ v') (T.set v'.ownBlock .lines) (fun j=>p.lv.ownBlock=some j∨j=p.x):=by
 have m:=grow_mv h h.lines hg ho hw 4 v'
 have hT:=grow_tags h h.lines
 have hh:=(grow_hdr h h.lines hg (fun h=>by cases h)).put 4 v'
 have hmv:∀ k x,RecAt w T k x→RecAt (w7.setCell ⟨p.x,4,none⟩ v') (T.set v'.ownBlock .lines) k x:=fun k x hx =>
  hx.move m (tags_ne hT) (fun j hj=>⟨tags_no hT (fun h=>by cases h) (fun h=>by cases h) j hj,tags_no hT (fun h=>by cases h) (fun h=>by cases h) j hj,tags_no hT (fun h=>by cases h) (fun h=>by cases h) j hj⟩)
 refine ⟨⟨by simpa [PS.cells] using hh,(m.old _ h.hdr.lt).trans h.tx,m.slice (tags_ne hT) h.dis,?_,?_,fun k x hx=>?_,?_,?_,?_,m.lt⟩,m⟩
 ·exact h.hold.move m (tags_no hT (fun h=>by cases h) (fun h=>by cases h))
 ·have:=grow_row h h.lines hg ho hw (fun h=>by cases h) 4 v'
  simpa using this
 ·have hx:(p.R++[y])[k]? = some x:=hx
  rcases Nat.lt_or_ge k p.R.length with hk | hk
  ·rw [List.getElem?_append_left hk] at hx
   exact hmv k x (h.recs k x hx)
  ·have hlt:=(List.getElem?_eq_some_iff.1 hx).1
   simp at hlt
   obtain rfl:k=p.R.length:=by omega
   rw [List.getElem?_append_right (by omega),Nat.sub_self] at hx
   simp at hx
   subst hx
   exact hmv _ _ hr
 ·exact h.out.move m (tags_no hT (fun h=>by cases h) (fun h=>by cases h))
 ·exact fun z hz=>m.slice (tags_ne hT) (h.body z hz)
 ·exact h.ev.move m (tags_no hT (fun h=>by cases h) (fun h=>by cases h))
end
theorem PX.newRec {w w2:World} {T:Tags} {p:PS} (h:PX w T p) (hk:Same w w2) {lb:Nat} {s:CL} (hlb:w.heap.size≤lb) (hline:LineAt w2 lb none none 0 s) {n0:Nat} (hn0:lb<n0) {B:Option Addr} {bc:Nat} {src:List SA} (hs:SAs w2 (fun i=>i<n0) B src) (d la:Int) (cs:Array Value) (hcs:cs=#[.pointer (some ⟨lb,0,none⟩),.int .i64 d,.slice B src.length bc,.int .i64 la]) :
 ∃ T2,PX (w2.alloc (.cells cs 111)) T2 p∧Mv w T (w2.alloc (.cells cs 111)) T2 (fun _=>False) ∧
  RecAt (w2.alloc (.cells cs 111)) T2 p.R.length ⟨w2.heap.size,lb,none,none,0,B,bc,src,s,d,la⟩:=by
 subst hcs
 have hl2:=hline.top.lt
 have hka:Same w2 (w2.alloc (.cells #[.pointer (some ⟨lb,0,none⟩),.int .i64 d,.slice B src.length bc,.int .i64 la] 111)):=(Keep.refl _ _).alloc _
 have hsz:=World.size_alloc w2 (.cells #[.pointer (some ⟨lb,0,none⟩),.int .i64 d,.slice B src.length bc,.int .i64 la] 111)
 have hle:=hk.size
 have m:Mv w T (w2.alloc (.cells #[.pointer (some ⟨lb,0,none⟩),.int .i64 d,.slice B src.length bc,.int .i64 la] 111)) ((T.set (some lb) (.line p.R.length)).set (some w2.heap.size) (.rc p.R.length)) (fun _=>False):=by
  refine ⟨hk.then hka,fun i hi=>?_,fun i hi=>?_⟩
  ·unfold Tags.set
   rw [if_neg (fun e=>by injection e with e;omega),if_neg (fun e=>by injection e with e;omega)]
  ·unfold Tags.set at hi
   by_cases e1:some w2.heap.size=some i
   ·injection e1 with e1;omega
   ·rw [if_neg e1] at hi
    by_cases e2:some lb=some i
    ·injection e2 with e2;omega
    ·rw [if_neg e2] at hi
     have:=h.lt i hi
     omega
 refine ⟨_,h.move0 m,m,Blk.made _ _ _,Tags.set_at _ rfl,hline.keep hka (fun f=>f) (fun g hg _=>by cases hg),?_,(fun g hg=>by cases hg),?_⟩
 ·show (if some w2.heap.size=some lb then some (Tag.rc p.R.length) else if some lb=some lb then some (Tag.line p.R.length) else T lb)=_
  rw [if_neg (fun e=>by injection e with e;omega),if_pos rfl]
 ·refine (hs.wide (fun i hi ht=>?_)).same hka
  unfold Tags.set at ht
  by_cases e1:some w2.heap.size=some i
  ·injection e1 with e1;omega
  ·rw [if_neg e1] at ht
   by_cases e2:some lb=some i
   ·injection e2 with e2;omega
   ·rw [if_neg e2] at ht
    have:=h.lt i ht
    omega
theorem ELn:Elem Tryz.prog 92 107 1 8 (.pointer none):=⟨Tryz.underlying92,by kernel_rfl,rfl,by decide⟩
def DPost (w:World) (T:Tags) (x:Nat) (X:XS) (v:Value) (e:Ending) (w':World):Prop:=∃ lv,PPost w T x lv X v e w'
set_option maxHeartbeats 8000000 in
set_option maxRecDepth 100000 in
theorem dialX {w:World} {T:Tags} {p:PS} (h:PX w T p) (hok:XOk p.pt) (hl:p.R.length≤1000) (hn:p.out.length≤900000) (hne:p.ev.length≤900000) (node:Int) (B:Option Addr) (cb:Nat) (l:List SA) (hs:SAs w (fun _=>False) B l) (hsn:l.length≤1000) (hnd:∀ x∈l,x.nd.length≤1000) (now:Int) :
 Calls Tryz.prog 34 #[.pointer (some ⟨p.x,0,none⟩),.int .i64 node,.slice B l.length cb,.int .i64 now] w (DPost w T p.x (p.pt.dial node (l.map SA.pt) now) (.tuple #[.int .i64 (p.pt.dialI node now),.int .i64 (p.pt.dialE node now)])):=by
 have HX:=hid h
 have HOK:=hid hok
 have c1:w.cell? ⟨p.x,1,none⟩=some (.slice p.D p.dis.length p.dc):=(h.hdr.at_ 1).trans rfl
 have hpl:=h.hdr.lt
 have HVT:=hid (fun W=>show Calls Tryz.prog 36 #[.int .i64 now] W (fun e w'=>e=.returned (.bool (vN now 0))∧w'=W) from (vtick_any W now).mono (fun _ _ h=>⟨h.1,h.2.symm⟩))
 by_cases g1:node<0
 ·have d1:decide (node<0)=true:=decide_eq_true g1
  have HE:=hid (show p.pt.dialE node now=1 from by unfold XS.dialE;rw [if_neg (fun h=>by omega)])
  have HI:=hid (show p.pt.dialI node now=0 from by unfold XS.dialI;rw [HE.out,if_neg (by decide)])
  have HS:=hid (show p.pt.dial node (l.map SA.pt) now=p.pt from by unfold XS.dial;rw [HE.out,if_neg (by decide)])
  clear h hok g1
  go_enter Tryz.func34,Tryz.ntmps34
  go_wp2_with (go_at_call 36;(with_reducible refine (HVT.out _).mono ?_);rintro e1 w1 ⟨rfl,hw1⟩;subst hw1;rw [HV.out])
  go_ret2
  exact ⟨p.lv,by rw [HI.out,HE.out];rfl,by rw [HS.out];exact PP.self HX.out⟩
 ·have d1:decide (node<0)=false:=decide_eq_false g1
  by_cases g2:(p.dis.length:Int)≤node
  ·have d2:decide ((p.dis.length:Int)≤node)=true:=decide_eq_true g2
   have HDL:=hid (show p.pt.dis.length=p.dis.length from rfl)
   have HE:=hid (show p.pt.dialE node now=1 from by unfold XS.dialE;rw [if_neg (fun h=>by have:=HDL.out;omega)])
   have HI:=hid (show p.pt.dialI node now=0 from by unfold XS.dialI;rw [HE.out,if_neg (by decide)])
   have HS:=hid (show p.pt.dial node (l.map SA.pt) now=p.pt from by unfold XS.dial;rw [HE.out,if_neg (by decide)])
   clear h hok g1 g2
   go_enter Tryz.func34,Tryz.ntmps34
   go_wp2_with (go_at_call 36;(with_reducible refine (HVT.out _).mono ?_);rintro e1 w1 ⟨rfl,hw1⟩;subst hw1;rw [HV.out])
   go_ret2
   exact ⟨p.lv,by rw [HI.out,HE.out];rfl,by rw [HS.out];exact PP.self HX.out⟩
  ·have d2:decide ((p.dis.length:Int)≤node)=false:=decide_eq_false g2
   cases hv:vN now 0 with
   | false =>
     have HV:=hid hv
     have HE:=hid (show p.pt.dialE node now=1 from by unfold XS.dialE;rw [if_neg (fun h=>by rw [hv] at h;cases h.2)])
     have HI:=hid (show p.pt.dialI node now=0 from by unfold XS.dialI;rw [HE.out,if_neg (by decide)])
     have HS:=hid (show p.pt.dial node (l.map SA.pt) now=p.pt from by unfold XS.dial;rw [HE.out,if_neg (by decide)])
     clear h hok g1 g2 hv
     go_enter Tryz.func34,Tryz.ntmps34
     go_wp2_with (go_at_call 36;(with_reducible refine (HVT.out _).mono ?_);rintro e1 w1 ⟨rfl,hw1⟩;subst hw1;rw [HV.out])
     go_ret2
     exact ⟨p.lv,by rw [HI.out,HE.out];rfl,by rw [HS.out];exact PP.self HX.out⟩
   | true =>
     have HV:=hid hv
     have hn0:0≤node:=by omega
     have hn1:node<(p.dis.length:Int):=by omega
     have HDL:=hid (show p.pt.dis.length=p.dis.length from rfl)
     have HE:=hid (show p.pt.dialE node now=0 from by unfold XS.dialE;rw [if_pos ⟨⟨hn0,by rw [HDL.out];exact hn1⟩,hv⟩])
     obtain ⟨dn,hdn⟩:∃ dn:Nat,node=(dn:Int):=⟨_,(Int.toNat_of_nonneg hn0).symm⟩
     subst hdn
     obtain ⟨d,hd⟩:=get_some (l:=p.dis) (k:=dn) (by omega)
     have hdr:0≤d∧d<p.cen:=HOK.out.dis d (List.mem_of_getElem? hd)
     obtain ⟨dd,hdd⟩:∃ dd:Nat,d=(dd:Int):=⟨_,(Int.toNat_of_nonneg hdr.1).symm⟩
     subst hdd
     have hwl:=HOK.out.wl
     rw [show p.pt.who.length=p.hold.length from by simp [PS.pt]] at hwl
     have hwl:(p.hold.length:Int)=p.cen:=hwl
     obtain ⟨hh,hha⟩:=get_some (l:=p.hold) (k:=dd) (by omega)
     have HDR:=hid hdr
     clear hdr hwl
     obtain ⟨db,doff,hDA,hdb,hdy⟩:=int_at h.dis hd
     rw [hDA] at c1
     have HI:=hid (show p.pt.dialI dn now=(p.R.length:Int)+1 from by unfold XS.dialI;rw [if_pos HE.out,PS.pt_len])
     have HS:=hid (show p.pt.dial dn (l.map SA.pt) now=((p.pt.add (newL ((p.R.length:Int)+1) (dd:Int) now (l.map SA.pt))).evt ⟨2,now,(dd:Int),(p.R.length:Int)+1,0,0⟩).bind p.R.length (newL ((p.R.length:Int)+1) (dd:Int) now (l.map SA.pt)) now from by
      unfold XS.dial
      rw [if_pos HE.out,PS.pt_len,Int.toNat_natCast,show p.pt.dis[dn]? = some (dd:Int) from hd]
      rfl)
     obtain ⟨LA,lc,hlv0⟩:=h.lines.own.shape
     have c4:w.cell? ⟨p.x,4,none⟩=some p.lv:=(h.hdr.at_ 4).trans rfl
     rw [hlv0] at c4
     have HNW:=hid (fun W=>new_any W ((p.R.length:Int)+1) now (vN_mk (by omega) (by omega)) hv)
     have HSR:=hid (fun W (hk:Same w W)=>firstV_any W (fun _=>False) B cb l (hs.same hk) hsn hnd)
     unfold FvPost at HSR
     clear h hok g1 g2 hv hd hDA hlv0 hs
     go_enter Tryz.func34,Tryz.ntmps34
     go_upto_region 7 with (first
      | (go_at_call 36;(with_reducible refine (HVT.out _).mono ?_);rintro e1 w1 ⟨rfl,hw1⟩;subst hw1;rw [HV.out])
      | (go_at_call 67;(with_reducible refine (HNW.out _).mono ?_);rintro e1 w2 ⟨rfl,hln,hk2⟩;have HLN:=hid hln;have HK2:=hid hk2;clear hln hk2))
     have HCF:=hid (fun W (hk:Same w1 W)=>show W.cell? ⟨p.x,1,none⟩=some (.slice (some ⟨db,doff,none⟩) p.dis.length p.dc)∧W.cell? ⟨db,doff+dn,none⟩=some (.int .i64 (dd:Int)) from ⟨(hk.cell (p:=⟨p.x,1,none⟩) hpl (fun f=>f)).trans c1,(hk.cell (p:=⟨db,doff+dn,none⟩) hdb (fun f=>f)).trans hdy⟩)
     have HCur:=hid (HK2.out.drew)
     have HHL:=hid hha
     clear c1 hdy c4
     have hd0:(0:Int)≤(dn:Int):=Int.natCast_nonneg _
     go_region_held3 (fun W=>W.cell? ⟨p.x,1,none⟩=some (.slice (some ⟨db,doff,none⟩) p.dis.length p.dc)∧W.cell? ⟨db,doff+dn,none⟩=some (.int .i64 (dd:Int)))
      (first | with_reducible exact HCF.out _ HCur.out | go_keep)
      (first | (go_at_call 68;(with_reducible refine (HSR.out _ HCur.out).mono ?_);rintro e wq ⟨v,VB,vc,rfl,hpt,hsv,hkq⟩;have HPT:=hid hpt;have HSV:=hid hsv;have HKQ:=hid (HK2.out.drew.then hkq);have HLQ:=hid ((HLN.out.same (Keep.refl (fun _=>False) _).drew).same hkq);clear HCur;have HCur:=HKQ;clear hpt hsv hkq))
     obtain ⟨T2,hx3,hm3,hr3⟩:=PX.newRec HX.out HKQ.out (Nat.le_refl _) HLQ.out HLN.out.top.lt HSV.out (dd:Int) 0 _ rfl
     have hsv:=HSV.out
     obtain ⟨rb,hrb⟩:∃ x,x=wq.heap.size:=⟨_,rfl⟩
     obtain ⟨lb,hlb⟩:∃ x,x=w1.heap.size:=⟨_,rfl⟩
     rw [←hrb,←hlb] at hr3
     rw [←hlb] at hx3 hm3
     generalize hw3:wq.alloc (.cells #[.pointer (some ⟨lb,0,none⟩),.int .i64 (dd:Int),.slice VB v.length vc,.int .i64 0] 111)=w3 at hx3 hm3 hr3
     rw [←hrb,←hlb,hw3]
     have HX3:=hid hx3
     have HM3:=hid hm3
     have HR3:=hid hr3
     clear hx3 hm3 hr3 hsv hw3 hrb hlb HSV HLQ HLN HKQ HCur HCF HNW HSR
     have HXA:=hid (HX3.out.same ((Keep.refl (fun _=>False) w3).alloc (.cells #[.pointer (some ⟨rb,0,none⟩)] 107)))
     have HMA:=hid (Mv.same ((Keep.refl (fun _=>False) w3).alloc (.cells #[.pointer (some ⟨rb,0,none⟩)] 107)) HX3.out.lt)
     have HRA:=hid (HR3.out.move HMA.out (fun _ f=>f.elim) (fun _ f=>f.elim))
     have HSC:=hid (src_new (w:=w3) (cs:=#[.pointer (some ⟨rb,0,none⟩)]) (t:=107) (news:=[RA.ptr (⟨rb,lb,none,none,0,VB,vc,v,⟨(p.R.length:Int)+1,1,now,-1,0,⟨#[]⟩,0,[]⟩,(dd:Int),0⟩:RA)]) rfl)
     have c4:w3.cell? ⟨p.x,4,none⟩=some p.lv:=(HX3.out.hdr.at_ 4).trans rfl
     go_upto_region 9 with (first
      | (at_builtin
         refine ELn.law2 (.tmp 61) (.tmp 63) p.lv (some ⟨w3.heap.size,0,none⟩) 1 1 rfl rfl rfl rfl 0 p.R.length (p.R.map RA.ptr) [RA.ptr (⟨rb,lb,none,none,0,VB,vc,v,⟨(p.R.length:Int)+1,1,now,-1,0,⟨#[]⟩,0,[]⟩,(dd:Int),0⟩:RA)] (p.R.length+1) ((p.R++[(⟨rb,lb,none,none,0,VB,vc,v,⟨(p.R.length:Int)+1,1,now,-1,0,⟨#[]⟩,0,[]⟩,(dd:Int),0⟩:RA)]).map RA.ptr) rfl (by rw [List.map_append];rfl) HXA.out.lines.own rfl (fun _=>⟨_,rfl,HSC.out⟩) (by intro u hu;rw [List.mem_singleton] at hu;subst hu;rfl) (by omega) (by unfold maxLen;omega) (Nat.zero_le _) ?_
         intro A7 c7 w7 ho7 hg7 hw7
         have hgr:=HXA.out.grow_lines (y:=(⟨rb,lb,none,none,0,VB,vc,v,⟨(p.R.length:Int)+1,1,now,-1,0,⟨#[]⟩,0,[]⟩,(dd:Int),0⟩:RA)) HRA.out hg7 ho7 (own_or hw7)
         have HX8:=hid hgr.1
         have HM7:=hid hgr.2
         have HT7:=hid (grow_tags HXA.out HXA.out.lines)
         have hh7:=grow_hdr HXA.out HXA.out.lines hg7 (fun h=>by cases h)
         have c4':w7.cell? ⟨p.x,4,none⟩=some p.lv:=(hh7.at_ 4).trans rfl
         have f4:=hh7.free 4
         clear ho7 hg7 hw7 hgr hh7))
     have HM8:=hid (((HM3.out.trans HMA.out (fun _ _ f=>f)).comp (fun _ f=>f.elim) HM7.out (tags_on HT7.out (fun h=>by cases h))))
     have HR8:=hid (HX8.out.recs p.R.length (⟨rb,lb,none,none,0,VB,vc,v,⟨(p.R.length:Int)+1,1,now,-1,0,⟨#[]⟩,0,[]⟩,(dd:Int),0⟩:RA) (by simp))
     clear c4 c4' f4 HXA HMA HRA HSC HM7 HT7
     generalize (w7.setCell ⟨p.x,4,none⟩ (.slice A7 (p.R.length+1) c7))=w8 at *
     generalize (T2.set (Value.slice A7 (p.R.length+1) c7).ownBlock Tag.lines)=T8 at *
     generalize (Value.slice A7 (p.R.length+1) c7)=lv8 at *
     have HNE:=hid (fun (e:p.evv.ownBlock=some rb)=>show False from by
      have ht:=HX8.out.ev.tag rb e
      have h2:=HR8.out.tb
      rw [show T8 rb=some (.rc p.R.length) from h2] at ht;injection ht with ht;cases ht)
     have HNX:=hid (fun (e:rb=p.x)=>show False from by
      have h3:T8 rb=some .hdr:=by rw [e];exact HX8.out.tx
      rw [show T8 rb=some (.rc p.R.length) from HR8.out.tb] at h3;injection h3 with h3;cases h3)
     have HB8:=hid (show Blk w8 rb 111 #[.pointer (some ⟨lb,0,none⟩),.int .i64 (dd:Int),.slice VB v.length vc,.int .i64 0] from HR8.out.blk)
     refine wp_region_held_drew (S:=fun W=>W.cell? ⟨rb,1,none⟩=some (.int .i64 (dd:Int))) (by kernel_rfl) (((HB8.out.keep (Keep.refl (fun _=>False) _) (fun f=>f)).at_ 1).trans rfl) (fun hHeld=>?_)
     refine tk 0 ?_
     refine tk 1 ?_
     refine tk 2 ?_
     refine tk 3 ?_
     refine tk 5 ?_
     refine tk 6 ?_
     refine tk 7 ?_
     refine tk 8 ?_
     refine tk 9 ?_
     refine tk 10 ?_
     refine tk 11 ?_
     have HXd:=hid (HX8.out.same (Keep.refl (fun _=>False) _).drew)
     clear hHeld
     generalize hwd:w8.drew=wd at *
     have HKwd:=hid (show Same w8 wd from by rw [←hwd];exact (Keep.refl _ _).drew)
     clear hwd
     apply one_restX (F:=fun _ _ _ W=>∃ (v9:Value) (T3:Tags) (S3:Nat→Prop),PX W T3 { p with R:=p.R++[(⟨rb,lb,none,none,0,VB,vc,v,⟨(p.R.length:Int)+1,1,now,-1,0,⟨#[]⟩,0,[]⟩,(dd:Int),0⟩:RA)],lv:=lv8,ev:=p.ev++[(⟨2,now,(dd:Int),(p.R.length:Int)+1,0,0⟩:Ev)],evv:=v9 }∧Mv w8 T8 W T3 S3∧∀ i,S3 i→T8 i=some .ev∨T8 i=some .hdr)
     case main =>
      intro REST
      refine wpAnyH_ready (rs:=[4,12]) (by kernel_rfl) (by simp) ?_
      refine AllReadyH.cons rfl (fun K hK=>?_) (AllReadyH.cons rfl (fun K hK=>?_) AllReadyH.nil)
      ·have e21:wd.cell? ⟨p.x,6,none⟩=some (p.evv):=(HXd.out.hdr.at_ 6).trans rfl
       go_simp
       clear e21
       refine hK.out _ _ (((HB8.out.keep HKwd.out (fun f=>f)).at_ 1).trans rfl) (fun hHeld21=>?_)
       clear hK K
       refine pput ?_
       refine rd1 12 (fun K hK=>?_)
       go_simp
       have hb22:=Blk.made wd 104 #[.int .i64 2,.int .i64 now,.int .i64 (dd:Int),.int .i64 ((p.R.length:Int)+1),.int .i64 0,.int .i64 0,.int .i64 0,.int .i64 0,.slice none 0 0,.int .i64 0,.int .i64 0,.int .i64 0,.int .i64 0,.int .i64 0,.int .i64 0,.int .i64 0,.int .i64 0,.int .i64 0,.int .i64 0,.int .i64 0,.int .i64 0,.int .i64 0,.int .i64 0,.int .i64 0,.int .i64 0,.slice none 0 0,.slice none 0 0,.slice none 0 0]
       have hk22:Same wd (wd.alloc (.cells #[.int .i64 2,.int .i64 now,.int .i64 (dd:Int),.int .i64 ((p.R.length:Int)+1),.int .i64 0,.int .i64 0,.int .i64 0,.int .i64 0,.slice none 0 0,.int .i64 0,.int .i64 0,.int .i64 0,.int .i64 0,.int .i64 0,.int .i64 0,.int .i64 0,.int .i64 0,.int .i64 0,.int .i64 0,.int .i64 0,.int .i64 0,.int .i64 0,.int .i64 0,.int .i64 0,.int .i64 0,.slice none 0 0,.slice none 0 0,.slice none 0 0] 104)):=(Keep.refl _ _).alloc _
       have HX22:=hid (HXd.out.same hk22)
       obtain ⟨g22,hg22⟩:∃ g,g=wd.heap.size:=⟨_,rfl⟩
       rw [←hg22] at hb22 ⊢
       have HKd22:=hid hk22
       clear hg22 hk22
       generalize (wd.alloc (.cells #[.int .i64 2,.int .i64 now,.int .i64 (dd:Int),.int .i64 ((p.R.length:Int)+1),.int .i64 0,.int .i64 0,.int .i64 0,.int .i64 0,.slice none 0 0,.int .i64 0,.int .i64 0,.int .i64 0,.int .i64 0,.int .i64 0,.int .i64 0,.int .i64 0,.int .i64 0,.int .i64 0,.int .i64 0,.int .i64 0,.int .i64 0,.int .i64 0,.int .i64 0,.int .i64 0,.int .i64 0,.slice none 0 0,.slice none 0 0,.slice none 0 0] 104))=q22 at *
       refine hK.out _ _ (((HB8.out.keep (HKwd.out.then HKd22.out) (fun f=>f)).at_ 1).trans rfl) (fun hHeld22=>?_)
       clear hK K
       refine pput ?_
       refine rd1 13 (fun K hK=>?_)
       refine EEv.step2 rfl (.tmp 71) (.tmp 79) rfl (p.evv) (some ⟨g22,0,none⟩) 1 1 rfl rfl 0 p.ev.length (p.ev.flatMap Ev.cells) (Ev.cells (⟨2,now,(dd:Int),(p.R.length:Int)+1,0,0⟩:Ev)) (p.ev.length+1) ((p.ev++[(⟨2,now,(dd:Int),(p.R.length:Int)+1,0,0⟩:Ev)]).flatMap Ev.cells) rfl (by rw [List.flatMap_append,List.flatMap_singleton]) (HX22.out.ev.own) rfl (fun _=>⟨_,rfl,src_blk hb22⟩) (ev_one _) (by omega) (by unfold maxLen;omega) (Nat.zero_le _) (by
        intro A7 c7 w7 ho7 hg7 hw7
        have hgr:=HX22.out.grow_ev hg7 ho7 (own_or hw7) (y:=(⟨2,now,(dd:Int),(p.R.length:Int)+1,0,0⟩:Ev))
        have HX7:=hid hgr.1
        have HM7:=hid hgr.2
        have hkq:Keep (fun j=>(p.evv).ownBlock=some j) q22 w7:=(Keep.refl _ _).grown hg7 (fun x e _=>e)
        have hh7:=grow_hdr HX22.out HX22.out.ev hg7 (fun h=>by cases h)
        have c4:w7.cell? ⟨p.x,6,none⟩=some (p.evv):=(hh7.at_ 6).trans rfl
        have f4:=hh7.free 6
        clear ho7 hg7 hw7 hgr
        refine hK.out _ _ ((((HB8.out.keep (HKwd.out.then HKd22.out) (fun f=>f)).keep hkq (fun e=>HNE.out e)).at_ 1).trans rfl) (fun hHeld23=>?_)
        clear hK K
        refine pput ?_
        refine tk 14 ?_
        refine tk 15 ?_
        refine rd1 16 (fun K hK=>?_)
        go_simp
        refine hK.out _ _ (let hp7:=(Keep.refl (· = p.x) w7).put 6 _;((((HB8.out.keep (HKwd.out.then HKd22.out) (fun f=>f)).keep hkq (fun e=>HNE.out e)).keep hp7 (fun e=>HNX.out e)).at_ 1).trans rfl) (fun hHeld23=>?_)
        clear hK K
        refine pput ?_
        refine wpAnyH_done (by kernel_rfl) ?_ _
        exact REST A7 c7 g22 _ ⟨_,_,_,HX7.out,((Mv.same (HKwd.out.then HKd22.out) HX8.out.lt).wide (fun _ f=>f.elim)).trans HM7.out (fun _ _ h=>h),grow_tags HX22.out HX22.out.ev⟩)
      ·go_simp
       have hb24:=Blk.made wd 104 #[.int .i64 2,.int .i64 now,.int .i64 (dd:Int),.int .i64 ((p.R.length:Int)+1),.int .i64 0,.int .i64 0,.int .i64 0,.int .i64 0,.slice none 0 0,.int .i64 0,.int .i64 0,.int .i64 0,.int .i64 0,.int .i64 0,.int .i64 0,.int .i64 0,.int .i64 0,.int .i64 0,.int .i64 0,.int .i64 0,.int .i64 0,.int .i64 0,.int .i64 0,.int .i64 0,.int .i64 0,.slice none 0 0,.slice none 0 0,.slice none 0 0]
       have hk24:Same wd (wd.alloc (.cells #[.int .i64 2,.int .i64 now,.int .i64 (dd:Int),.int .i64 ((p.R.length:Int)+1),.int .i64 0,.int .i64 0,.int .i64 0,.int .i64 0,.slice none 0 0,.int .i64 0,.int .i64 0,.int .i64 0,.int .i64 0,.int .i64 0,.int .i64 0,.int .i64 0,.int .i64 0,.int .i64 0,.int .i64 0,.int .i64 0,.int .i64 0,.int .i64 0,.int .i64 0,.int .i64 0,.int .i64 0,.slice none 0 0,.slice none 0 0,.slice none 0 0] 104)):=(Keep.refl _ _).alloc _
       have HX24:=hid (HXd.out.same hk24)
       obtain ⟨g24,hg24⟩:∃ g,g=wd.heap.size:=⟨_,rfl⟩
       rw [←hg24] at hb24 ⊢
       have HKd24:=hid hk24
       clear hg24 hk24
       generalize (wd.alloc (.cells #[.int .i64 2,.int .i64 now,.int .i64 (dd:Int),.int .i64 ((p.R.length:Int)+1),.int .i64 0,.int .i64 0,.int .i64 0,.int .i64 0,.slice none 0 0,.int .i64 0,.int .i64 0,.int .i64 0,.int .i64 0,.int .i64 0,.int .i64 0,.int .i64 0,.int .i64 0,.int .i64 0,.int .i64 0,.int .i64 0,.int .i64 0,.int .i64 0,.int .i64 0,.int .i64 0,.int .i64 0,.slice none 0 0,.slice none 0 0,.slice none 0 0] 104))=q24 at *
       refine hK.out _ _ (((HB8.out.keep (HKwd.out.then HKd24.out) (fun f=>f)).at_ 1).trans rfl) (fun hHeld24=>?_)
       clear hK K
       refine pput ?_
       refine rd1 4 (fun K hK=>?_)
       have e25:q24.cell? ⟨p.x,6,none⟩=some (p.evv):=(HX24.out.hdr.at_ 6).trans rfl
       go_simp
       clear e25
       refine hK.out _ _ (((HB8.out.keep (HKwd.out.then HKd24.out) (fun f=>f)).at_ 1).trans rfl) (fun hHeld25=>?_)
       clear hK K
       refine pput ?_
       refine rd1 13 (fun K hK=>?_)
       refine EEv.step2 rfl (.tmp 71) (.tmp 79) rfl (p.evv) (some ⟨g24,0,none⟩) 1 1 rfl rfl 0 p.ev.length (p.ev.flatMap Ev.cells) (Ev.cells (⟨2,now,(dd:Int),(p.R.length:Int)+1,0,0⟩:Ev)) (p.ev.length+1) ((p.ev++[(⟨2,now,(dd:Int),(p.R.length:Int)+1,0,0⟩:Ev)]).flatMap Ev.cells) rfl (by rw [List.flatMap_append,List.flatMap_singleton]) (HX24.out.ev.own) rfl (fun _=>⟨_,rfl,src_blk hb24⟩) (ev_one _) (by omega) (by unfold maxLen;omega) (Nat.zero_le _) (by
        intro A7 c7 w7 ho7 hg7 hw7
        have hgr:=HX24.out.grow_ev hg7 ho7 (own_or hw7) (y:=(⟨2,now,(dd:Int),(p.R.length:Int)+1,0,0⟩:Ev))
        have HX7:=hid hgr.1
        have HM7:=hid hgr.2
        have hkq:Keep (fun j=>(p.evv).ownBlock=some j) q24 w7:=(Keep.refl _ _).grown hg7 (fun x e _=>e)
        have hh7:=grow_hdr HX24.out HX24.out.ev hg7 (fun h=>by cases h)
        have c4:w7.cell? ⟨p.x,6,none⟩=some (p.evv):=(hh7.at_ 6).trans rfl
        have f4:=hh7.free 6
        clear ho7 hg7 hw7 hgr
        refine hK.out _ _ ((((HB8.out.keep (HKwd.out.then HKd24.out) (fun f=>f)).keep hkq (fun e=>HNE.out e)).at_ 1).trans rfl) (fun hHeld26=>?_)
        clear hK K
        refine pput ?_
        refine tk 14 ?_
        refine tk 15 ?_
        refine rd1 16 (fun K hK=>?_)
        go_simp
        refine hK.out _ _ (let hp7:=(Keep.refl (· = p.x) w7).put 6 _;((((HB8.out.keep (HKwd.out.then HKd24.out) (fun f=>f)).keep hkq (fun e=>HNE.out e)).keep hp7 (fun e=>HNX.out e)).at_ 1).trans rfl) (fun hHeld26=>?_)
        clear hK K
        refine pput ?_
        refine wpAnyH_done (by kernel_rfl) ?_ _
        exact REST A7 c7 g24 _ ⟨_,_,_,HX7.out,((Mv.same (HKwd.out.then HKd24.out) HX8.out.lt).wide (fun _ f=>f.elim)).trans HM7.out (fun _ _ h=>h),grow_tags HX24.out HX24.out.ev⟩)
     case rest =>
      intro A9 c9 g9 v1 hF
      obtain ⟨v9,T3,S3,hx9,hm9,ht9⟩:=hF
      have HX9:=hid hx9
      have HM9:=hid (HM8.out.comp (fun _ h=>h) hm9 (tags_on ht9 (fun h=>by cases h)))
      have HYP:=hid (show RA.pt (⟨rb,lb,none,none,0,VB,vc,v,⟨(p.R.length:Int)+1,1,now,-1,0,⟨#[]⟩,0,[]⟩,(dd:Int),0⟩:RA)=newL ((p.R.length:Int)+1) (dd:Int) now (l.map SA.pt) from by simp only [RA.pt,newL,HPT.out])
      have HLK:=hid (show LnOk (RA.pt (⟨rb,lb,none,none,0,VB,vc,v,⟨(p.R.length:Int)+1,1,now,-1,0,⟨#[]⟩,0,[]⟩,(dd:Int),0⟩:RA)) from by rw [HYP.out];exact newL_ok ⟨by omega,by omega⟩ ⟨HDR.out.1,by have h9:p.cen≤9:=HOK.out.c9;have:=HDR.out.2;omega⟩ HV.out)
      have has:=assignX_any hx9 (k:=p.R.length) (x:=(⟨rb,lb,none,none,0,VB,vc,v,⟨(p.R.length:Int)+1,1,now,-1,0,⟨#[]⟩,0,[]⟩,(dd:Int),0⟩:RA)) (by simp) HLK.out (by show p.out.length≤1000000;omega) (by show (p.ev++[_]).length≤1000000;rw [List.length_append,List.length_singleton];omega) (dn:=dd) rfl HHL.out now
      have HAS:=hid has
      clear hx9 hm9 ht9 has
      go_wp2_with (go_at_call 69;(with_reducible refine HAS.out.mono ?_);rintro e w10 ⟨rfl,hP⟩;have HP:=hid hP;clear hP)
      go_ret2
      refine ⟨lv8,by rw [HI.out,HE.out];rfl,?_⟩
      rw [HS.out]
      have:=PP.after HM9.out (fun _ h=>h) HP.out
      rw [HYP.out] at this
      have e8:(({ p with R:=p.R++[(⟨rb,lb,none,none,0,VB,vc,v,⟨(p.R.length:Int)+1,1,now,-1,0,⟨#[]⟩,0,[]⟩,(dd:Int),0⟩:RA)],lv:=lv8,ev:=p.ev++[(⟨2,now,(dd:Int),(p.R.length:Int)+1,0,0⟩:Ev)],evv:=v9 }:PS).pt)=(p.pt.add (newL ((p.R.length:Int)+1) (dd:Int) now (l.map SA.pt))).evt ⟨2,now,(dd:Int),(p.R.length:Int)+1,0,0⟩:=by
       simp [PS.pt,XS.add,XS.evt,HYP.out]
      rw [←e8]
      exact this
theorem vnum_all {c:CF} (h:vnum c=0):VB4 c∧disB c=true∧parB c=true:=by
 have h4:VB4 c:=by
  by_cases k1:1≤c.cen∧c.cen≤9
  ·by_cases k3:1≤(c.dis.length:Int)∧(c.dis.length:Int)≤4096
   ·exact ⟨k1.1,k1.2,k3.1,k3.2⟩
   ·have:=vnum2 k1.1 k1.2 (c:=c) (by omega);omega
  ·have:=vnum1 (c:=c) (by omega);omega
 cases h3:disB c
 ·have:=vnum3 h4 h3;omega
 ·cases h5:edgesB c
  ·have:=vnum4 h4 h3 h5;omega
  ·cases h6:unitsB c
   ·have:=vnum5 h4 h3 h5 h6;omega
   ·cases h7:plansB c.pla
    ·have:=vnum6 h4 h3 h5 h6 h7;omega
    ·cases h8:parB c
     ·have:=vnum7 h4 h3 h5 h6 h7 h8;omega
     ·exact ⟨h4,rfl,rfl⟩
theorem vnum_rt {c:CF} (h:vnum c=0):1≤c.h5∧c.h5≤1048576:=by
 have h8:=(vnum_all h).2.2
 rw [parB,List.all_eq_true] at h8
 have:=h8 (1,1048576,c.h5) (by simp [parsL])
 simpa [rngB] using this
def newX (c:CF):XS:=⟨c.cen,c.dis,c.h5,(List.range c.cen.toNat).map (fun k:Nat=>(k:Int)),List.replicate c.cen.toNat 1,[],[],[]⟩
theorem newX_ok {c:CF} (h:vnum c=0):XOk (newX c):=by
 obtain ⟨⟨h1,h9,_,_⟩,h3,_⟩:=vnum_all h
 have hr:=vnum_rt h
 refine ⟨h1,h9,by simp [newX];omega,by simp [newX];omega,fun d a b ha hb=>?_,fun d hd=>?_,by simp only [newX];omega,fun i l hl=>by simp [newX] at hl⟩
 ·simp only [newX,List.getElem?_map,List.getElem?_replicate] at ha hb
  have hdl:d<c.cen.toNat:=by
   rcases Nat.lt_or_ge d c.cen.toNat with h | h
   ·exact h
   ·rw [if_neg (by omega)] at hb;cases hb
  rw [if_pos hdl] at hb
  rw [List.getElem?_range hdl] at ha
  cases hb;cases ha
  simp only [newX]
  omega
 ·rw [disB,List.all_eq_true] at h3
  have:=h3 d hd
  simpa [inB,newX] using this
theorem EHd:Elem Tryz.prog 91 134 2 16 (.agg #[.int .i64 0,.int .i64 0]):=⟨Tryz.underlying91,by kernel_rfl,rfl,by decide⟩
theorem PX.grow_hold {w w7:World} {T:Tags} {p:PS} {v':Value} (h:PX w T p) {y:Int × Int} (hg:w.grownBy w7 p.hv.ownBlock) (ho:Own w7 0 134 2 v' (p.hold.length+1) ((p.hold++[y]).flatMap hcells)) (hw:v'.ownBlock=p.hv.ownBlock∨∃ g,v'.ownBlock=some g∧w.heap.size≤g) :
 PX (w7.setCell ⟨p.x,3,none⟩ v') (T.set v'.ownBlock .hold) { p with hold:=p.hold++[y],hv:=v' }∧Mv w T (w7.setCell ⟨p.x,3,none⟩ v') (T.set v'.ownBlock .hold) (fun j=>p.hv.ownBlock=some j∨j=p.x):=by
 have m:=grow_mv h h.hold hg ho hw 3 v'
 have hT:=grow_tags h h.hold
 have hh:=(grow_hdr h h.hold hg (fun h=>by cases h)).put 3 v'
 refine ⟨⟨by simpa [PS.cells] using hh,(m.old _ h.hdr.lt).trans h.tx,m.slice (tags_ne hT) h.dis,?_,?_,fun k x hx=>recs_move h m hT (fun k=>⟨(fun h=>by cases h),(fun h=>by cases h),(fun h=>by cases h)⟩) k x hx,?_,?_,?_,m.lt⟩,m⟩
 ·have:=grow_row h h.hold hg ho hw (fun h=>by cases h) 3 v'
  simpa using this
 ·exact h.lines.move m (tags_no hT (fun h=>by cases h) (fun h=>by cases h))
 ·exact h.out.move m (tags_no hT (fun h=>by cases h) (fun h=>by cases h))
 ·exact fun z hz=>m.slice (tags_ne hT) (h.body z hz)
 ·exact h.ev.move m (tags_no hT (fun h=>by cases h) (fun h=>by cases h))
def hrow (j:Nat):List (Int × Int):=(List.range j).map (fun k:Nat=>((k:Int),1))
theorem hrow_succ (j:Nat):hrow (j+1)=hrow j++[((j:Int),1)]:=by simp [hrow,List.range_succ]
theorem hrow_len (j:Nat):(hrow j).length=j:=by simp [hrow]
def newP (x:Nat) (cen:Int) (D:Option Addr) (dc:Nat) (dis:List Int) (rt:Int) (j:Nat) (hv:Value):PS:=⟨x,cen,D,dc,dis,rt,hrow j,hv,[],.slice none 0 0,[],.slice none 0 0,[],.slice none 0 0⟩
structure NewAt (w wr:World) (T:Tags) (p:PS):Prop where
 px:PX wr T p
 same:Same w wr
 new:∀ i,T i≠none→w.heap.size≤i
theorem NewAt.after {w wr w2:World} {T T2:Tags} {p p2:PS} {S:Nat→Prop} (h:NewAt w wr T p) (hp:PX w2 T2 p2) (hm:Mv wr T w2 T2 S) (hS:∀ i,S i→T i≠none):NewAt w w2 T2 p2 :=
 ⟨hp,h.same.trans hm.keep (fun i hi hs=>by have:=h.new i (hS i hs);omega),fun i hi=>by
  rcases hm.new i hi with h1 | h1
  ·exact h.new i h1
  ·exact Nat.le_trans h.same.size h1⟩
def NewPost (w:World) (c:CF) (e:Ending) (w':World):Prop :=
 (vnum c=0∧∃ T p,e=.returned (.tuple #[.pointer (some ⟨p.x,0,none⟩),.int .i64 0])∧p.pt=newX c∧NewAt w w' T p) ∨
 (vnum c≠0∧e=.returned (.tuple #[.pointer none,.int .i64 1])∧Same w w')
theorem newP_pt (x:Nat) (c:CF) (D:Option Addr) (dc n:Nat) (hv:Value) (hc:c.cen=(n:Int)):(newP x (n:Int) D dc c.dis c.h5 n hv).pt=newX c:=by
 simp only [newP,PS.pt,newX,hrow,hc,Int.toNat_natCast,List.map_map,List.map_nil]
 congr 1
 apply List.ext_getElem?
 intro i
 simp only [List.getElem?_map,List.getElem?_replicate]
 rcases Nat.lt_or_ge i n with h | h
 ·rw [List.getElem?_range h,if_pos h];rfl
 ·rw [List.getElem?_eq_none (by simpa using h),if_neg (by omega)];rfl
set_option maxHeartbeats 8000000 in
set_option maxRecDepth 100000 in
theorem newX_any (w:World) (c:CF) (hm:CM w c):Calls Tryz.prog 27 #[.agg c.cells.toArray] w (NewPost w c):=by
 have hb0:=Blk.made w 27 c.cells.toArray
 have hw0:=(Keep.refl (fun _=>False) w).alloc (.cells c.cells.toArray 27)
 have HB:=hid (fun W (hk:Same (w.alloc (.cells c.cells.toArray 27)) W)=>hb0.keep (S:=fun _=>False) hk (fun f=>f))
 have HW:=hid hw0
 have HVA:=hid (validate_any (w.alloc (.cells c.cells.toArray 27)) c (hm.same hw0))
 have HM:=hid hm
 have hb1:=cfc hb0
 clear hb0 hw0 hm
 unfold NewPost
 have HPT:=hid (fun x D dc n hv hc=>newP_pt x c D dc n hv hc)
 generalize hvn:vnum c=vn at *
 by_cases hv:vn=0
 ·subst hv
  have hdu:=vnum_rt hvn
  obtain ⟨⟨n1,n9,d1,d2⟩,_⟩:=vnum_all hvn
  clear hvn
  have hwr:IntKind.i64.wrap (2 * c.h5)=2 * c.h5:=IntWalk.i64_in _ ⟨by omega,by omega⟩
  have HWR:=hid hwr
  clear hwr
  obtain ⟨cen,D,cD,dis,E,cE,edg,U,cU,uni,P,cP,pla,h0,h1,h2,h3,h4,h5,h6,h7,h8,h9⟩:=c
  simp only at n1 n9 d1 d2 hdu
  obtain ⟨n,rfl⟩:=Int.eq_ofNat_of_zero_le (show 0≤cen by omega)
  have HPT:=hid (fun x D dc hv=>HPT.out x D dc n hv rfl)
  obtain ⟨c0,c1,c2,c3,c4,c5,c6,c7,c8,c9,c10,c11,c12,c13,c14,hg⟩:=hb1
  simp only [CF.cells] at *
  go_enter Tryz.func27,Tryz.ntmps27
  go_upto_region 3 with (
   (go_at_call 57;(with_reducible refine HVA.out.mono ?_);rintro e w1 ⟨rfl,hs1⟩;have HS1:=hid hs1;clear hs1 c0 c1 c2 c3 c4 c5 c6 c7 c8 c9 c10 c11 c12 c13 c14))
  have HK1:=hid (HW.out.then HS1.out)
  have hcf:=HB.out _ HS1.out
  have z0:w1.cell? ⟨w.heap.size,0,none⟩=some (.int .i64 (n:Int)):=hcf.at_ 0
  have z1:w1.cell? ⟨w.heap.size,1,none⟩=some (.slice D dis.length cD):=hcf.at_ 1
  have z10:w1.cell? ⟨w.heap.size,10,none⟩=some (.int .i64 h5):=hcf.at_ 10
  have HCF:=hid hcf
  have HDS:=hid (HM.out.dis.same HK1.out)
  clear hcf HVA HB HM HS1 HW
  obtain ⟨q,hq⟩:∃ q,q=w.heap.size:=⟨_,rfl⟩
  rw [←hq] at z0 z1 z10 HCF ⊢
  clear hq
  refine wp_region_held_drew (S:=fun W=>W.cell? ⟨q,0,none⟩=some (.int .i64 (n:Int))∧W.cell? ⟨q,1,none⟩=some (.slice D dis.length cD)∧W.cell? ⟨q,10,none⟩=some (.int .i64 h5)) (by kernel_rfl) ⟨z0,z1,z10⟩ (fun hHeld=>?_)
  refine tk 0 ?_
  refine tk 1 ?_
  refine tk 2 ?_
  refine tk 3 ?_
  refine tk 5 ?_
  refine tk 6 ?_
  have hwr:=HWR.out
  refine tk 7 ?_
  have HCd:=hid (HCF.out.keep (Keep.refl (fun _=>False) w1).drew (fun f=>f))
  have HDd:=hid (HDS.out.same (Keep.refl (fun _=>False) w1).drew)
  have HKd:=hid (HK1.out.drew)
  clear hHeld z0 z1 z10 HCF HDS HK1 hwr
  generalize w1.drew=wd at *
  refine rd1 4 (fun K hK=>?_)
  refine EIn.step2 rfl (.const (.slice none 0 0)) (.tmp 12) rfl (.slice none 0 0) D dis.length cD rfl rfl wd.heap.size 0 [] (icellsC dis) dis.length _ (Nat.zero_add _) rfl (Own.nil _ _ _ _) (by simp [icellsC]) (HDd.out.src (Keep.refl (fun _=>False) _)) (icells_one _) (by omega) (by unfold maxLen;omega) (Nat.le_refl _) (by
   intro A2 e2 w4 ho hg hw
   have hk4:Same wd w4:=(Keep.refl (fun _=>False) wd).app (Own.nil wd wd.heap.size 3 1) hg (fun g h1 h2=>by omega)
   have HO:=hid ho.slN
   have HK4:=hid (HKd.out.then hk4)
   have hb4:=HCd.out.keep hk4 (fun f=>f)
   have HB4:=hid hb4
   clear ho hg hw
   refine hK.out _ _ ⟨(hb4.at_ 0).trans rfl,(hb4.at_ 1).trans rfl,(hb4.at_ 10).trans rfl⟩ (fun hHeld=>?_)
   clear hK K hb4 hk4
   refine pput ?_
   refine tk 8 ?_
   refine rd1 9 (fun K hK=>?_)
   go_simp
   have hbx:=Blk.made w4 94 #[.int .i64 (n:Int),.slice A2 dis.length e2,.int .i64 (2 * h5),.slice none 0 0,.slice none 0 0,.slice none 0 0,.slice none 0 0]
   have hka:Same w4 (w4.alloc (.cells #[.int .i64 (n:Int),.slice A2 dis.length e2,.int .i64 (2 * h5),.slice none 0 0,.slice none 0 0,.slice none 0 0,.slice none 0 0] 94)):=(Keep.refl _ _).alloc _
   have hb5:=HB4.out.keep hka (fun f=>f)
   have HN0:=hid (show NewAt w (w4.alloc (.cells #[.int .i64 (n:Int),.slice A2 dis.length e2,.int .i64 (2 * h5),.slice none 0 0,.slice none 0 0,.slice none 0 0,.slice none 0 0] 94)) (fun i=>if i=w4.heap.size then some .hdr else none) (newP w4.heap.size (n:Int) A2 e2 dis h5 0 (.slice none 0 0)) from by
    refine ⟨⟨hbx,if_pos rfl,?_,⟨Own.nil _ _ _ _,fun g hg=>by simp [newP,Value.ownBlock] at hg⟩,⟨Own.nil _ _ _ _,fun g hg=>by simp [newP,Value.ownBlock] at hg⟩,(fun k x hx=>by simp [newP] at hx),⟨Own.nil _ _ _ _,fun g hg=>by simp [newP,Value.ownBlock] at hg⟩,(fun y hy=>by cases hy),⟨Own.nil _ _ _ _,fun g hg=>by simp [newP,Value.ownBlock] at hg⟩,?_⟩,HK4.out.then hka,?_⟩
    ·refine (HO.out.wide (fun i hi ht=>?_)).same hka
     by_cases e:i=w4.heap.size
     ·omega
     ·rw [if_neg e] at ht;exact absurd rfl ht
    ·intro i hi
     by_cases e:i=w4.heap.size
     ·rw [World.size_alloc];omega
     ·rw [if_neg e] at hi;exact absurd rfl hi
    ·intro i hi
     by_cases e:i=w4.heap.size
     ·have:=HK4.out.size;omega
     ·rw [if_neg e] at hi;exact absurd rfl hi)
   obtain ⟨xb,hxb⟩:∃ x,x=w4.heap.size:=⟨_,rfl⟩
   rw [←hxb] at HN0 ⊢
   generalize (w4.alloc (.cells #[.int .i64 (n:Int),.slice A2 dis.length e2,.int .i64 (2 * h5),.slice none 0 0,.slice none 0 0,.slice none 0 0,.slice none 0 0] 94))=w5 at *
   generalize (fun i=>if i=xb then some Tag.hdr else none:Tags)=T0 at *
   have z0:w5.cell? ⟨q,0,none⟩=some (.int .i64 (n:Int)):=(hb5.at_ 0).trans rfl
   refine hK.out _ _ ⟨z0,(hb5.at_ 1).trans rfl,(hb5.at_ 10).trans rfl⟩ (fun hHeld2=>?_)
   clear hK K hb5 hbx hka hxb HB4 HK4 HO
   refine pput ?_
   refine tk 10 ?_
   refine wpAnyH_done (by kernel_rfl) ?_ _
   clear hHeld hHeld2 HCd HDd HKd
   go_wp2_with fail
   go_loopw [21] (fun i wr=>∃ (j:Nat) (vj:Value) (T:Tags),j≤n∧i=.int .i64 j∧Hid (NewAt w wr T (newP xb (n:Int) A2 e2 dis h5 j vj))) (fun i _=>n - (intOf i).toNat)
   case atStart=>exact ⟨0,_,T0,by omega,rfl,HN0⟩
   case round =>
    obtain ⟨j,vj,T,hj,rfl,HI⟩:=hrel
    by_cases hlt:j<n
    ·have c3:wr.cell? ⟨xb,3,none⟩=some vj:=(HI.out.px.hdr.at_ 3).trans rfl
     have hj1:(j:Int)<(n:Int):=by omega
     have HNA:=hid (show NewAt w (wr.alloc (.cells #[.int .i64 (j:Int),.int .i64 1] 134)) T (newP xb (n:Int) A2 e2 dis h5 j vj) from ⟨HI.out.px.same ((Keep.refl _ _).alloc _),HI.out.same.alloc _,HI.out.new⟩)
     have HOW:=hid (show Own (wr.alloc (.cells #[.int .i64 (j:Int),.int .i64 1] 134)) 0 134 2 vj j ((hrow j).flatMap hcells) from by
      have:=HNA.out.px.hold.own
      rw [show (newP xb (n:Int) A2 e2 dis h5 j vj).hold.length=j from hrow_len j] at this
      exact this)
     have HSC:=hid (src_new (w:=wr) (cs:=#[.int .i64 (j:Int),.int .i64 1]) (t:=134) (news:=hcells ((j:Int),1)) rfl)
     clear HN0 z0
     go_wp2_with (first
      | (at_builtin
         refine EHd.law2 (.tmp 28) (.tmp 31) vj (some ⟨wr.heap.size,0,none⟩) 1 1 rfl rfl rfl rfl 0 j ((hrow j).flatMap hcells) (hcells ((j:Int),1)) (j+1) ((hrow (j+1)).flatMap hcells) rfl (by rw [hrow_succ,List.flatMap_append,List.flatMap_singleton]) HOW.out rfl (fun _=>⟨_,rfl,HSC.out⟩) (by intro u hu;simp only [hcells,List.mem_cons,List.not_mem_nil,or_false] at hu;rcases hu with rfl | rfl <;> rfl) (by omega) (by unfold maxLen;omega) (Nat.zero_le _) ?_
         intro A7 c7 w7 ho7 hg7 hw7
         have hgr:=HNA.out.px.grow_hold (y:=((j:Int),1)) hg7 (by
          rw [show (newP xb (n:Int) A2 e2 dis h5 j vj).hold.length=j from hrow_len j,show (newP xb (n:Int) A2 e2 dis h5 j vj).hold++[((j:Int),1)]=hrow (j+1) from (hrow_succ j).symm]
          exact ho7) (own_or hw7)
         have HN7:=hid (HNA.out.after hgr.1 hgr.2 (tags_ne (grow_tags HNA.out.px HNA.out.px.hold)))
         have hh7:=grow_hdr HNA.out.px HNA.out.px.hold hg7 (fun h=>by cases h)
         have c3':w7.cell? ⟨xb,3,none⟩=some vj:=(hh7.at_ 3).trans rfl
         have f3:w7.frozen? ⟨xb,3,none⟩=false:=hh7.free 3
         clear ho7 hg7 hw7 hgr hh7))
     go_roundw
     case rel =>
      have HF:=hid (show NewAt w (w7.setCell ⟨xb,3,none⟩ (.slice A7 (j+1) c7)) (T.set (Value.slice A7 (j+1) c7).ownBlock .hold) (newP xb (n:Int) A2 e2 dis h5 (j+1) (.slice A7 (j+1) c7)) from by
       have:=HN7.out
       unfold newP at this ⊢
       rw [hrow_succ]
       exact this)
      first | exact ⟨j+1,_,_,by omega,by go_num,HF⟩ | ((repeat apply Exists.intro);refine And.intro ?_ rfl;exact ⟨j+1,_,_,by omega,by go_num,HF⟩)
     case measure=>simp [intOf];omega
    ·obtain rfl:j=n:=by omega
     go_wp2_with fail
     go_ret2
     exact .inl ⟨trivial,T,newP xb (j:Int) A2 e2 dis h5 j vj,rfl,HPT.out _ _ _ _,HI.out⟩)
 ·have hv':(vn != 0)=true:=by simpa using hv
  obtain ⟨cen,D,cD,dis,E,cE,edg,U,cU,uni,P,cP,pla,h0,h1,h2,h3,h4,h5,h6,h7,h8,h9⟩:=c
  obtain ⟨c0,c1,c2,c3,c4,c5,c6,c7,c8,c9,c10,c11,c12,c13,c14,hg⟩:=hb1
  simp only [CF.cells] at *
  have HV:=hid hv
  clear hv hvn
  go_enter Tryz.func27,Tryz.ntmps27
  go_wp2_with (
   (go_at_call 57;(with_reducible refine HVA.out.mono ?_);rintro e w1 ⟨rfl,hs1⟩;have HS1:=hid hs1;clear hs1))
  go_ret2
  exact .inr ⟨HV.out,rfl,HW.out.then HS1.out⟩
theorem EI64:Elem Tryz.prog 31 2 1 8 (.int .i64 0):=⟨Tryz.underlying31,by kernel_rfl,rfl,by decide⟩
def opB (X:XS) (k:Nat):Bool:=match X.L[k]? with
 | some l=>l.s.st != 5
 | none=>false
def openN (X:XS) (j:Nat):List Int:=((List.range j).filter (opB X)).map (fun k:Nat=>(k:Int)+1)
def XS.opens (X:XS):List Int:=openN X X.L.length
def callsN (j:Nat):List Int:=(List.range j).map (fun k:Nat=>(k:Int)+1)
theorem callsN_succ (j:Nat):callsN (j+1)=callsN j++[(j:Int)+1]:=by simp [callsN,List.range_succ]
theorem callsN_len (j:Nat):(callsN j).length=j:=by simp [callsN]
theorem openN_yes {X:XS} {j:Nat} (h:opB X j=true):openN X (j+1)=openN X j++[(j:Int)+1]:=by simp [openN,List.range_succ,List.filter_append,h]
theorem openN_no {X:XS} {j:Nat} (h:opB X j=false):openN X (j+1)=openN X j:=by simp [openN,List.range_succ,List.filter_append,h]
structure GL (w wr:World) (V:Option Addr) (vc:Nat) (L r:List Int):Prop where
 own:Own wr w.heap.size 2 1 (.slice V L.length vc) L.length (icells L)
 eq:L=r
 same:Same w wr
set_option maxHeartbeats 8000000 in
set_option maxRecDepth 100000 in
theorem callsX {w:World} {T:Tags} {p:PS} (h:PX w T p) (hl:p.R.length≤1000):Calls Tryz.prog 30 #[.pointer (some ⟨p.x,0,none⟩)] w (NI w (callsN p.R.length)):=by
 have HX:=hid h
 obtain ⟨LA,lc,hlv0⟩:=h.lines.own.shape
 have c4:w.cell? ⟨p.x,4,none⟩=some p.lv:=(h.hdr.at_ 4).trans rfl
 rw [hlv0] at c4
 have HLV:=hid hlv0
 clear h hlv0
 go_enter Tryz.func30,Tryz.ntmps30
 go_wp2_with fail
 go_loopw [3,10] (fun vv i wr=>∃ (j:Nat) (L:List Int) (V:Option Addr) (vc:Nat),j≤p.R.length∧i=.int .i64 j∧vv=.slice V L.length vc∧L.length≤j∧Hid (GL w wr V vc L (callsN j))) (fun _ i _=>p.R.length - (RowKit.intOf i).toNat)
 case atStart=>exact ⟨0,[],none,0,Nat.zero_le _,rfl,rfl,by simp,hid ⟨Own.nil _ _ _ _,rfl,Keep.refl _ _⟩⟩
 case round =>
  obtain ⟨j,L,V,vc,hj,rfl,rfl,hL,HI⟩:=hrel
  by_cases hlt:j<p.R.length
  ·have hj1:(j:Int)<(p.R.length:Int):=by omega
   have hj0:(0:Int)≤(j:Int):=Int.natCast_nonneg _
   have HOW:=hid (HI.out.own.keepB ((Keep.refl (fun _=>False) wr).alloc (.cells #[.int .i64 ((j:Int)+1)] 2)) (fun _ _ f=>f))
   have HSC:=hid (src_new (w:=wr) (cs:=#[.int .i64 ((j:Int)+1)]) (t:=2) (news:=[.int .i64 ((j:Int)+1)]) rfl)
   have HSZ:=hid (show w.heap.size≤(wr.alloc (.cells #[.int .i64 ((j:Int)+1)] 2)).heap.size from (HI.out.same.alloc _).size)
   clear c4
   go_wp2_with (first
    | (at_builtin
       refine EI64.law2 (.tmp 13) (.tmp 16) (.slice V L.length vc) (some ⟨wr.heap.size,0,none⟩) 1 1 rfl rfl rfl rfl w.heap.size L.length (icells L) [.int .i64 ((j:Int)+1)] (L.length+1) (icells (L++[(j:Int)+1])) rfl (by simp [icells]) HOW.out rfl (fun _=>⟨_,rfl,HSC.out⟩) (by intro u hu;rw [List.mem_singleton] at hu;subst hu;rfl) (by omega) (by unfold maxLen;omega) HSZ.out ?_
       intro A7 c7 w7 ho7 hg7 hw7
       have HO7:=hid ho7
       have HK7:=hid ((HI.out.same.alloc (.cells #[.int .i64 ((j:Int)+1)] 2)).app HOW.out hg7 (fun g h1 h2=>by omega))
       clear ho7 hg7 hw7))
   go_roundw
   case rel =>
    have HF:=hid (show GL w w7 A7 c7 (L++[(j:Int)+1]) (callsN (j+1)) from ⟨by rw [List.length_append,List.length_singleton];exact HO7.out,by rw [callsN_succ,←HI.out.eq],HK7.out⟩)
    first | exact ⟨j+1,L++[(j:Int)+1],A7,c7,by omega,by go_num,by simp,by simp;omega,HF⟩ | ((repeat apply Exists.intro);refine And.intro ?_ rfl;exact ⟨j+1,L++[(j:Int)+1],A7,c7,by omega,by go_num,by simp,by simp;omega,HF⟩)
   case measure=>simp [RowKit.intOf];omega
  ·obtain rfl:j=p.R.length:=by omega
   go_wp2_with fail
   go_ret
   have e1:=HI.out.eq
   exact ⟨V,vc,by rw [←e1];rfl,by rw [←e1];exact HI.out.own.slN,HI.out.same⟩
set_option maxHeartbeats 8000000 in
set_option maxRecDepth 100000 in
theorem opensX {w:World} {T:Tags} {p:PS} (h:PX w T p) (hl:p.R.length≤1000):Calls Tryz.prog 25 #[.pointer (some ⟨p.x,0,none⟩)] w (NI w p.pt.opens):=by
 have HX:=hid h
 obtain ⟨LA,lc,hlv0⟩:=h.lines.own.shape
 have c4:w.cell? ⟨p.x,4,none⟩=some p.lv:=(h.hdr.at_ 4).trans rfl
 rw [hlv0] at c4
 have HLV:=hid hlv0
 clear h hlv0
 go_enter Tryz.func25,Tryz.ntmps25
 go_wp2_with fail
 go_loopw [3,11] (fun vv i wr=>∃ (j:Nat) (L:List Int) (V:Option Addr) (vc:Nat),j≤p.R.length∧i=.int .i64 j∧vv=.slice V L.length vc∧L.length≤j∧Hid (GL w wr V vc L (openN p.pt j))) (fun _ i _=>p.R.length - (RowKit.intOf i).toNat)
 case atStart=>exact ⟨0,[],none,0,Nat.zero_le _,rfl,rfl,by simp,hid ⟨Own.nil _ _ _ _,rfl,Keep.refl _ _⟩⟩
 case round =>
  obtain ⟨j,L,V,vc,hj,rfl,rfl,hL,HI⟩:=hrel
  by_cases hlt:j<p.R.length
  ·have hj1:(j:Int)<(p.R.length:Int):=by omega
   have hj0:(0:Int)≤(j:Int):=Int.natCast_nonneg _
   have HOW:=hid (HI.out.own.keepB ((Keep.refl (fun _=>False) wr).alloc (.cells #[.int .i64 ((j:Int)+1)] 2)) (fun _ _ f=>f))
   have HSC:=hid (src_new (w:=wr) (cs:=#[.int .i64 ((j:Int)+1)]) (t:=2) (news:=[.int .i64 ((j:Int)+1)]) rfl)
   have HSZ:=hid (show w.heap.size≤(wr.alloc (.cells #[.int .i64 ((j:Int)+1)] 2)).heap.size from (HI.out.same.alloc _).size)
   clear c4
   obtain ⟨x,hx⟩:=get_some hlt
   have hxw:=HX.out.same HI.out.same
   obtain ⟨b,off,c,hv2,hb,_,y⟩:=lines_at hxw hx
   rw [HLV.out] at hv2
   injection hv2 with hA hn2 hc2
   have hr:=hxw.recs j x hx
   have z0:wr.cell? ⟨x.rb,0,none⟩=some (.pointer (some ⟨x.lb,0,none⟩)):=(hr.blk.at_ 0).trans rfl
   have HST:=hid (state_any wr x.lb x.r x.A x.c x.s hr.line)
   have HOP:=hid (show opB p.pt j=(x.s.st != 5) from by unfold opB;rw [PS.pt_at hx];rfl)
   clear hx hxw hr hn2 hc2
   subst hA
   by_cases s5:x.s.st=5
   ·have d5:(x.s.st != 5)=false:=by simp [s5]
    have HN:=hid (openN_no (X:=p.pt) (j:=j) (by rw [HOP.out,d5]))
    clear s5
    go_wp2_with (first
     | (go_at_call 39;(with_reducible refine HST.out.mono ?_);rintro e1 w1 ⟨rfl,hw1⟩;subst hw1))
    go_roundw
    case rel =>
     have HF:=hid (show GL w wr V vc L (openN p.pt (j+1)) from ⟨HI.out.own,by rw [HN.out];exact HI.out.eq,HI.out.same⟩)
     first | exact ⟨j+1,L,V,vc,by omega,by go_num,rfl,by omega,HF⟩ | ((repeat apply Exists.intro);refine And.intro ?_ rfl;exact ⟨j+1,L,V,vc,by omega,by go_num,rfl,by omega,HF⟩)
    case measure=>simp [RowKit.intOf];omega
   ·have d5:(x.s.st != 5)=true:=by simpa using s5
    have HN:=hid (openN_yes (X:=p.pt) (j:=j) (by rw [HOP.out,d5]))
    clear s5
    go_wp2_with (first
     | (go_at_call 39;(with_reducible refine HST.out.mono ?_);rintro e1 w1 ⟨rfl,hw1⟩;subst hw1)
     | (at_builtin
        refine EI64.law2 (.tmp 22) (.tmp 25) (.slice V L.length vc) (some ⟨wr.heap.size,0,none⟩) 1 1 rfl rfl rfl rfl w.heap.size L.length (icells L) [.int .i64 ((j:Int)+1)] (L.length+1) (icells (L++[(j:Int)+1])) rfl (by simp [icells]) HOW.out rfl (fun _=>⟨_,rfl,HSC.out⟩) (by intro u hu;rw [List.mem_singleton] at hu;subst hu;rfl) (by omega) (by unfold maxLen;omega) HSZ.out ?_
        intro A7 c7 w7 ho7 hg7 hw7
        have HO7:=hid ho7
        have HK7:=hid ((HI.out.same.alloc (.cells #[.int .i64 ((j:Int)+1)] 2)).app HOW.out hg7 (fun g h1 h2=>by omega))
        clear ho7 hg7 hw7))
    go_roundw
    case rel =>
     have HF:=hid (show GL w w7 A7 c7 (L++[(j:Int)+1]) (openN p.pt (j+1)) from ⟨by rw [List.length_append,List.length_singleton];exact HO7.out,by rw [HN.out,←HI.out.eq],HK7.out⟩)
     first | exact ⟨j+1,L++[(j:Int)+1],A7,c7,by omega,by go_num,by simp,by simp;omega,HF⟩ | ((repeat apply Exists.intro);refine And.intro ?_ rfl;exact ⟨j+1,L++[(j:Int)+1],A7,c7,by omega,by go_num,by simp,by simp;omega,HF⟩)
    case measure=>simp [RowKit.intOf];omega
  ·obtain rfl:j=p.R.length:=by omega
   go_wp2_with fail
   go_ret
   have e1:=HI.out.eq
   exact ⟨V,vc,by unfold XS.opens;rw [PS.pt_len,←e1];rfl,by unfold XS.opens;rw [PS.pt_len,←e1];exact HI.out.own.slN,HI.out.same⟩
end Go.Proofs.YtbjddfiledoaoaaGreat

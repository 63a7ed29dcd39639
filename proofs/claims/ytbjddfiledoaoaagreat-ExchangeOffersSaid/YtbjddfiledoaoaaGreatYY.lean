import Derived.Test.YtbjddfiledoaoaaGreatYL
import Derived.Test.YtbjddfiledoaoaaGreatYMc
import Derived.Test.YtbjddfiledoaoaaGreatYS
import Derived.Test.YtbjddfiledoaoaaGreatYSb
namespace Go.Proofs.YtbjddfiledoaoaaGreat
open Go.RowKit
theorem letterQ (w:World) (Av:Nat→Prop) (hAv:∀ i,Av i→i<w.heap.size) (a:AT) (h:ATok w Av a) (hbl:a.note.body.length≤200) (hsl:a.sp.length≤200) (place:Int):Calls Tryz.prog 64 #[.agg a.cells.toArray,.int .i64 place] w (LtP w Av a place):=by
 by_cases hq:0<a.sp.length
 ·exact letterQ_sp w Av hAv a h hbl hsl place hq
 ·exact letterQ_enc w Av hAv a h hbl hsl place hq
theorem recv_ok {X:XS} {a:AT} {now:Int} (h:okL a X.cen=true):X.recv a.fr a.tt (bodyA a) now=if vN now 0=true∧(rawM (bodyA a)).c<X.cen then X.hear (rawM (bodyA a)) now else X:=by
 unfold okL at h
 obtain ⟨h1,h2,h3,h4,h5⟩:=of_decide_eq_true h
 unfold XS.recv
 by_cases hv:vN now 0=true
 ·rw [if_pos ⟨hv,h2,h4,h5⟩,if_pos ⟨h1,h3.symm⟩,if_pos ⟨hv,by omega⟩]
 ·rw [if_neg (fun e=>hv e.1),if_neg (fun e=>hv e.1)]
theorem recv_no {X:XS} {a:AT} {now:Int} (h:okL a X.cen=false):X.recv a.fr a.tt (bodyA a) now=X:=by
 unfold okL at h
 have h:=of_decide_eq_false h
 unfold XS.recv
 split
 ·rename_i h1
  split
  ·rename_i h2
   exact absurd ⟨h2.1,h1.2.1,h2.2.symm,h1.2.2.1,h1.2.2.2⟩ h
  ·rfl
 ·rfl
theorem bodyA_le {a:AT} (h:fewA a=true):(bodyA a).length≤10000:=by
 have hf:=few_src h
 unfold bodyA
 split
 ·omega
 ·exact encM_le a.note hf.2.1
set_option maxHeartbeats 8000000 in
set_option maxRecDepth 100000 in
theorem do_pack {w:World} {T:Tags} {p:PS} {q:QS} {c:CF} {b:Nat} (J:JJ w T p q c b) (hb:b≤60) (a:AT) (ha:ATok w (fun i=>T i≠none) a) (hf:fewA a=true) (hk:a.k=3):Calls Tryz.prog 29 #[.pointer (some ⟨p.x,0,none⟩),.agg q.cells.toArray,.agg a.cells.toArray] w (DoP w T p.x q.pt c b a):=by
 have hm:=((Blk.made w 35 q.cells.toArray).alloc (.cells a.cells.toArray 63)).alloc (.cells zero20.toArray 35)
 have he:=(Blk.made (w.alloc (.cells q.cells.toArray 35)) 63 a.cells.toArray).alloc (.cells zero20.toArray 35)
 have hz:=Blk.made ((w.alloc (.cells q.cells.toArray 35)).alloc (.cells a.cells.toArray 63)) 35 zero20.toArray
 have hw:Same w (((w.alloc (.cells q.cells.toArray 35)).alloc (.cells a.cells.toArray 63)).alloc (.cells zero20.toArray 35)):=(((Keep.refl _ _).alloc _).alloc _).alloc _
 rw [World.size_alloc] at he
 rw [World.size_alloc,World.size_alloc] at hz
 generalize hw1:(((w.alloc (.cells q.cells.toArray 35)).alloc (.cells a.cells.toArray 63)).alloc (.cells zero20.toArray 35))=w1 at *
 have hsz:w1.heap.size=w.heap.size+3:=by rw [←hw1];simp only [World.size_alloc]
 have hJ1:=J.rsv hw
 have hT0:(T.rsv w.heap.size w1.heap.size) w.heap.size=some .rsv:=Tags.rsv_at (by omega) (by omega)
 have hT1:(T.rsv w.heap.size w1.heap.size) (w.heap.size+1)=some .rsv:=Tags.rsv_at (by omega) (by omega)
 have hT2:(T.rsv w.heap.size w1.heap.size) (w.heap.size+1+1)=some .rsv:=Tags.rsv_at (by omega) (by omega)
 have HM:=hid hm
 have HE:=hid he
 have HZ:=hid hz
 have HW:=hid hw
 have HJ:=hid J
 have HJ1:=hid hJ1
 have HSZ:=hid hsz
 have HT:=hid (And.intro hT0 (And.intro hT1 hT2))
 have HB:=hid hb
 have HF:=hid hf
 have HA:=hid (ha.step (Mv.rsv J.px.lt hw) (fun _ f=>f.elim))
 have HLN:=hid (And.intro J.lens hJ1.n)
 have h03:w.heap.size<w1.heap.size:=by omega
 have h13:w.heap.size+1<w1.heap.size:=by omega
 have hact:∀ X:XS,actX X a (bodyA a)=X.recv a.fr a.tt (bodyA a) a.now:=fun X=>by unfold actX;rw [if_neg (by omega)];rw [if_neg (by omega)];rw [if_neg (by omega)];rw [if_pos hk]
 have HACT:=hid hact
 have hrl:=HLN.out
 have HEQ:=hid J.eq
 have hfs:=few_src hf
 have HBL:=hid (bodyA_le hf)
 have hcen:q.pt.cen=q.c.cen:=rfl
 have HCE:=hid hcen
 have HLT:=hid (letterQ w1 _ hJ1.px.lt a HA.out hfs.2.1 hfs.2.2 q.c.cen)
 unfold LtP at HLT
 have c0:w1.cell? ⟨w.heap.size,0,none⟩=some (.int .i64 q.c.cen):=hm.at_ 0
 have y0:w1.cell? ⟨w.heap.size+1,0,none⟩=some (.int .i64 3):=by rw [←hk];exact he.at_ 0
 have HKK:=hid hk
 clear hk hact hrl hfs hcen
 clear hm he hz hw J hb ha hf hsz hJ1 hT0 hT1 hT2
 go_enter Tryz.func29,Tryz.ntmps29
 go_upto_region 1 with fail
 try simp only [zero20] at hw1
 try rw [hw1]
 clear hw1
 go_upto_region 16 with (first
  | (refine wpList_load_row rfl _ (.tmp 5) rfl (w.heap.size+1) rfl _ a.cells.toArray (0,0) _ HE.out Tryz.underlying63 rfl (by kernel_rfl) ?_)
  | (go_at_call 64
     (with_reducible refine HLT.out.mono ?_)
     rintro e1 wl ⟨C,cc,nv,rfl,hsC,hnv,hone,hgood,hk3⟩
     have HSC:=hid hsC
     have HNV:=hid (And.intro hnv hone)
     have HGO:=hid hgood
     have HKL:=hid hk3
     have HPZ:=hid ((Blk.made wl 56 #[.int .i64 0,.int .i64 0,.slice none 0 0]).alloc (.cells #[.int .i64 0,.int .i64 0,.int .i64 0,.int .i64 0,.int .i64 0,.int .i64 0,.slice none 0 0] 46))
     have hnz:=Blk.made (wl.alloc (.cells #[.int .i64 0,.int .i64 0,.slice none 0 0] 56)) 46 #[.int .i64 0,.int .i64 0,.int .i64 0,.int .i64 0,.int .i64 0,.int .i64 0,.slice none 0 0]
     rw [World.size_alloc] at hnz
     have HNZ:=hid hnz
     clear hsC hnv hone hgood hk3 hnz)
  | (refine wpList_store_row rfl _ (.tmp 19) (.tmp 113) rfl wl.heap.size (#[.int .i64 a.fr,.int .i64 a.tt,.slice C (bodyA a).length cc]) rfl rfl _ _ HPZ.out (by kernel_rfl) rfl (one_toArray (pk_one (⟨a.fr,a.tt,C,cc,bodyA a⟩:PkA))) ?_)
  | (refine wpList_store_row rfl _ (.tmp 20) (.tmp 114) rfl (wl.heap.size+1) nv rfl rfl _ _ (HNZ.out.keep (Keep.row _ _ _) (fun e=>by have e2:wl.heap.size+1=wl.heap.size:=e;omega)) (by rw [HNV.out.1];kernel_rfl) (by rw [HNV.out.1];rfl) HNV.out.2 ?_))
 have hbp:Blk ((((wl.alloc (.cells #[.int .i64 0,.int .i64 0,.slice none 0 0] 56)).alloc (.cells #[.int .i64 0,.int .i64 0,.int .i64 0,.int .i64 0,.int .i64 0,.int .i64 0,.slice none 0 0] 46)).setRow wl.heap.size #[.int .i64 a.fr,.int .i64 a.tt,.slice C (bodyA a).length cc]).setRow (wl.heap.size+1) nv) wl.heap.size 56 #[.int .i64 a.fr,.int .i64 a.tt,.slice C (bodyA a).length cc]:=(HPZ.out.row _).keep (Keep.row _ _ _) (fun e=>by have e2:wl.heap.size=wl.heap.size+1:=e;omega)
 have hbn:Blk ((((wl.alloc (.cells #[.int .i64 0,.int .i64 0,.slice none 0 0] 56)).alloc (.cells #[.int .i64 0,.int .i64 0,.int .i64 0,.int .i64 0,.int .i64 0,.int .i64 0,.slice none 0 0] 46)).setRow wl.heap.size #[.int .i64 a.fr,.int .i64 a.tt,.slice C (bodyA a).length cc]).setRow (wl.heap.size+1) nv) (wl.heap.size+1) 46 nv:=Blk.row (HNZ.out.keep (Keep.row _ _ _) (fun e=>by have e2:wl.heap.size+1=wl.heap.size:=e;omega)) _
 have hkl:Same wl ((((wl.alloc (.cells #[.int .i64 0,.int .i64 0,.slice none 0 0] 56)).alloc (.cells #[.int .i64 0,.int .i64 0,.int .i64 0,.int .i64 0,.int .i64 0,.int .i64 0,.slice none 0 0] 46)).setRow wl.heap.size #[.int .i64 a.fr,.int .i64 a.tt,.slice C (bodyA a).length cc]).setRow (wl.heap.size+1) nv):=((((Keep.refl (fun _=>False) wl).alloc _).alloc _).trans (Keep.row _ _ _) (fun j hj e=>by have e2:j=wl.heap.size:=e;omega)).trans (Keep.row _ _ _) (fun j hj e=>by have e2:j=wl.heap.size+1:=e;omega)
 have hkL:=HKL.out.size
 obtain ⟨gp,hgp⟩:∃ g,g=wl.heap.size:=⟨_,rfl⟩
 rw [←hgp] at hbp hbn hkl ⊢
 have HGP:=hid (show w1.heap.size≤gp from by rw [hgp];exact hkL)
 have HBP:=hid hbp
 have HBN:=hid hbn
 have HK14:=hid (HKL.out.then hkl)
 have HSC4:=hid (HSC.out.same hkl)
 have HGO4:=hid (fun h=>by obtain ⟨B,bc,e1,e2⟩:=HGO.out h;exact (⟨B,bc,e1,e2.same hkl⟩:∃ (B:Option Addr) (bc:Nat),nv=((rawM (bodyA a)).cells B bc).toArray∧Sl _ (fun i=>(T.rsv w.heap.size w1.heap.size) i≠none) 1 B (rawM (bodyA a)).body.length (bcells (rawM (bodyA a)).body)))
 clear hbp hbn hkl hgp hkL HPZ HNZ c0
 generalize ((((wl.alloc (.cells #[.int .i64 0,.int .i64 0,.slice none 0 0] 56)).alloc (.cells #[.int .i64 0,.int .i64 0,.int .i64 0,.int .i64 0,.int .i64 0,.int .i64 0,.slice none 0 0] 46)).setRow gp #[.int .i64 a.fr,.int .i64 a.tt,.slice C (bodyA a).length cc]).setRow (gp+1) nv)=w4 at *
 have HJ4:=hid (HJ1.out.same HK14.out)
 have HTN:=hid (show (T.rsv w.heap.size w1.heap.size) (gp+1)=none from by
  cases ht:(T.rsv w.heap.size w1.heap.size) (gp+1) with
  | none=>rfl
  | some t=>have h1:=HJ1.out.px.lt (gp+1) (by rw [ht];exact fun h=>by cases h);have h2:=HGP.out;omega)
 have hrl:=HLN.out
 have hbb:=HB.out
 have HCX:=hid (recvX HJ4.out.px (by rw [HJ4.out.eq];exact HJ4.out.ok) (by omega) (by omega) (by rw [hrl.1.2.2];omega) a.fr a.tt C cc (bodyA a) HSC4.out (by have:=HBL.out;omega) a.now)
 unfold PPost PP at HCX
 have y15:w4.cell? ⟨w.heap.size+1,15,none⟩=some (.int .i64 a.now):=(HE.out.keep HK14.out (fun f=>f)).at_ 15
 clear hrl hbb
 cases hok:okL a q.c.cen with
 | false =>
   have HPT3:=hid (show q.pt.recv a.fr a.tt (bodyA a) a.now=q.pt from recv_no hok)
   clear hok
   go_upto_region 26 with (first
    | (refine wpList_load_row rfl _ (.tmp 19) rfl gp rfl _ (#[.int .i64 a.fr,.int .i64 a.tt,.slice C (bodyA a).length cc]) (0,0) _ HBP.out Tryz.underlying56 rfl (by kernel_rfl) ?_)
    | (go_at_call 17
       (with_reducible refine HCX.out.mono ?_)
       rintro e1 w2 ⟨rfl,p2,T2,S20,hx2,_,hpt2,hp2,m20,hS20⟩
       have m2:=(Mv.same HK14.out HJ1.out.px.lt).comp (fun _ f=>f.elim) m20 hS20
       have hS2:∀ i,(T.rsv w.heap.size w1.heap.size).on i→(T.rsv w.heap.size w1.heap.size).on i:=fun i h=>h
       have HMV20:=hid m20
       have HS20:=hid hS20
       have HX2:=hid hx2
       have HPT2:=hid hpt2
       have HP2:=hid hp2
       have HMV2:=hid m2
       have HS2:=hid hS2
       have HM2:=hid (HM.out.keep m2.keep (fun h=>Tags.rsv_off HT.out.1 h))
       have HE2:=hid (HE.out.keep m2.keep (fun h=>Tags.rsv_off HT.out.2.1 h))
       have HZ2:=hid (HZ.out.keep m2.keep (fun h=>Tags.rsv_off HT.out.2.2 h))
       have HBN2:=hid (HBN.out.keep m20.keep (fun h=>(hS20 _ h).1 HTN.out))
       have HR2:=hid (HJ1.out.rx.step m2 (fun i hs=>hs.1))
       have HLT2:=hid (fun i (h:T2 i≠none)=>hp2.lt i h)
       have y15:w2.cell? ⟨w.heap.size+1,15,none⟩=some (.int .i64 a.now):=HE2.out.at_ 15
       clear hx2 hpt2 hp2 m20 hS20 m2 hS2))
   have HD:=hid (do_end HJ.out HB.out a HW.out HMV2.out HS2.out HP2.out HX2.out (by rw [HPT2.out,HEQ.out,HACT.out]) (Keep.refl (fun _=>False) w2) (fun _ f=>f.elim) (fun _ f=>f.elim) HR2.out (by rw [HACT.out,HPT3.out]) HJ.out.cfg (show w.heap.size≤w.heap.size+1+1 by omega) (by have:=HSZ.out;omega))
   go_wp2_with (first
    | (refine wpList_load_row rfl _ (.tmp 4) rfl w.heap.size rfl _ q.cells.toArray (0,0) _ HM2.out Tryz.underlying35 rfl (by kernel_rfl) ?_)
    | (refine wpList_store_row rfl _ (.tmp 6) (.tmp 155) rfl (w.heap.size+1+1) q.cells.toArray rfl rfl _ _ HZ2.out (by kernel_rfl) rfl (one_toArray (q_one q)) ?_))
   refine bodyPost_ret (results_cell_tmp rfl _ _ _ _ _ _ _ _ rfl rfl (HZ2.out.row _) Tryz.underlying35 rfl (by kernel_rfl)) rfl ?_
   exact HD.out
 | true =>
   have HPT3:=hid (show q.pt.recv a.fr a.tt (bodyA a) a.now=if vN a.now 0=true∧(rawM (bodyA a)).c<q.c.cen then q.pt.hear (rawM (bodyA a)) a.now else q.pt from recv_ok hok)
   obtain ⟨B,bc,hnvE,hsB⟩:=HGO4.out hok
   have HSB:=hid hsB
   have HVM:=hid (errM_vM (of_decide_eq_true (show decide _=true from hok)).1)
   have HNV':=HNV
   subst hnvE
   clear hok hsB HGO HGO4
   go_upto_region 18 with (first
    | (refine wpList_load_row rfl _ (.tmp 19) rfl gp rfl _ (#[.int .i64 a.fr,.int .i64 a.tt,.slice C (bodyA a).length cc]) (0,0) _ HBP.out Tryz.underlying56 rfl (by kernel_rfl) ?_)
    | (go_at_call 17
       (with_reducible refine HCX.out.mono ?_)
       rintro e1 w2 ⟨rfl,p2,T2,S20,hx2,_,hpt2,hp2,m20,hS20⟩
       have m2:=(Mv.same HK14.out HJ1.out.px.lt).comp (fun _ f=>f.elim) m20 hS20
       have hS2:∀ i,(T.rsv w.heap.size w1.heap.size).on i→(T.rsv w.heap.size w1.heap.size).on i:=fun i h=>h
       have HMV20:=hid m20
       have HS20:=hid hS20
       have HX2:=hid hx2
       have HPT2:=hid hpt2
       have HP2:=hid hp2
       have HMV2:=hid m2
       have HS2:=hid hS2
       have HM2:=hid (HM.out.keep m2.keep (fun h=>Tags.rsv_off HT.out.1 h))
       have HE2:=hid (HE.out.keep m2.keep (fun h=>Tags.rsv_off HT.out.2.1 h))
       have HZ2:=hid (HZ.out.keep m2.keep (fun h=>Tags.rsv_off HT.out.2.2 h))
       have HBN2:=hid (HBN.out.keep m20.keep (fun h=>(hS20 _ h).1 HTN.out))
       have HR2:=hid (HJ1.out.rx.step m2 (fun i hs=>hs.1))
       have HLT2:=hid (fun i (h:T2 i≠none)=>hp2.lt i h)
       have y15:w2.cell? ⟨w.heap.size+1,15,none⟩=some (.int .i64 a.now):=HE2.out.at_ 15
       clear hx2 hpt2 hp2 m20 hS20 m2 hS2))
   have HCR:=hid (hearQ w2 _ HLT2.out q HR2.out HJ1.out.ok HJ1.out.own (by have:=HLN.out;have:=HB.out;omega) (by have:=HLN.out;have:=HB.out;omega) (by have:=HLN.out;have:=HB.out;omega) a.now (rawM (bodyA a)) B bc HVM.out (HMV20.out.slice (fun i hi=>(HS20.out i hi).1) HSB.out))
   unfold QPost at HCR
   go_upto_region 26 with (first
    | (refine wpList_load_row rfl _ (.tmp 4) rfl w.heap.size rfl _ q.cells.toArray (0,0) _ HM2.out Tryz.underlying35 rfl (by kernel_rfl) ?_)
    | (refine wpList_load_row rfl _ (.tmp 20) rfl (gp+1) rfl _ ((rawM (bodyA a)).cells B bc).toArray (0,0) _ HBN2.out Tryz.underlying46 rfl (by kernel_rfl) ?_)
    | (go_at_call 65
       (with_reducible refine HCR.out.mono ?_)
       rintro e3 w3 ⟨q3,rfl,hr3,hp3,hc3,hk3⟩
       have HR3:=hid hr3
       have HP3:=hid (hp3.trans HPT3.out.symm)
       have HC3:=hid hc3
       have HK3:=hid hk3
       have HM3:=hid (HM2.out.keep hk3 (fun f=>f))
       clear hr3 hp3 hc3 hk3)
    | (refine wpList_store_row rfl _ (.tmp 4) (.tmp 126) rfl w.heap.size q3.cells.toArray rfl rfl _ _ HM3.out (by kernel_rfl) rfl (one_toArray (q_one q3)) ?_))
   have hkr:Keep (fun j=>j=w.heap.size) w3 (w3.setRow w.heap.size q3.cells.toArray):=Keep.row _ _ _
   have hT20:T2 w.heap.size=some .rsv:=(HMV2.out.old _ h03).trans HT.out.1
   have HM4:=hid (HM3.out.row q3.cells.toArray)
   have HZ4:=hid ((HZ2.out.keep HK3.out (fun f=>f)).keep hkr (fun e=>by have e2:w.heap.size+1+1=w.heap.size:=e;omega))
   have HK4:=hid ((HK3.out.wide (T:=fun j=>j=w.heap.size) (fun _ _ f=>f.elim)).trans hkr (fun _ _ e=>e))
   have HR4:=hid (HR3.out.keep hkr (fun j _ e=>by have e2:j=w.heap.size:=e;rw [e2,hT20];exact fun h=>by cases h))
   have HT20:=hid hT20
   clear hkr hT20
   generalize (w3.setRow w.heap.size q3.cells.toArray)=w4 at *
   have HD:=hid (do_end HJ.out HB.out a HW.out HMV2.out HS2.out HP2.out HX2.out (by rw [HPT2.out,HEQ.out,HACT.out]) HK4.out (fun i e=>by have e2:i=w.heap.size:=e;rw [e2];exact HT20.out) (fun i e=>Nat.le_of_eq (show i=w.heap.size from e).symm) HR4.out (by rw [HP3.out,HACT.out]) (HC3.out.trans HJ.out.cfg) (show w.heap.size≤w.heap.size+1+1 by omega) (by have:=HSZ.out;omega))
   go_wp2_with (first
    | (refine wpList_load_row rfl _ (.tmp 4) rfl w.heap.size rfl _ q3.cells.toArray (0,0) _ HM4.out Tryz.underlying35 rfl (by kernel_rfl) ?_)
    | (refine wpList_store_row rfl _ (.tmp 6) (.tmp 155) rfl (w.heap.size+1+1) q3.cells.toArray rfl rfl _ _ HZ4.out (by kernel_rfl) rfl (one_toArray (q_one q3)) ?_))
   refine bodyPost_ret (results_cell_tmp rfl _ _ _ _ _ _ _ _ rfl rfl (HZ4.out.row _) Tryz.underlying35 rfl (by kernel_rfl)) rfl ?_
   exact HD.out
end Go.Proofs.YtbjddfiledoaoaaGreat

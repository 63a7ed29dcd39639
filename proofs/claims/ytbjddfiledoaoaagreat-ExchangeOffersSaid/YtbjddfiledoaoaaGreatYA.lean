import Derived.Test.YtbjddfiledoaoaaGreatXG
import Derived.Test.YtbjddfiledoaoaaGreatWireS
import Derived.Test.YtbjddfiledoaoaaGreatConfF
namespace Go.Proofs.YtbjddfiledoaoaaGreat
open Go.RowKit
set_option maxHeartbeats 8000000 in
set_option maxRecDepth 100000 in
theorem rbytes_any (w:World) (Av:Nat→Prop) (A:Option Addr) (c:Nat) (b:List UInt8) (hb:Sl w Av 1 A b.length (bcells b)) (hl:b.length≤10000000):Calls Tryz.prog 52 #[.slice A b.length c] w (OwnPost w (encD b)):=by
 have HI:=hid (pInt_any w (b.length:Int) (by omega) (by omega))
 unfold OwnPost at HI
 have HB:=hid hb
 have hle:(encI (b.length:Int)).length≤10:=encI_le ⟨by omega,by omega⟩
 have HE:=hid (show encI (b.length:Int)++b=encD b from rfl)
 have HEL:=hid (show (encI (b.length:Int)).length+b.length=(encD b).length from by rw [←HE.out,List.length_append])
 generalize encI (b.length:Int)=e1 at *
 clear hb
 go_enter Tryz.func52,Tryz.ntmps52
 go_wp2_with (first
  | (go_at_call 54;(with_reducible refine HI.out.mono ?_);rintro e w1 ⟨A1,c1,rfl,ho1,hk1⟩;have HO1:=hid ho1;have HK1:=hid hk1;have HB1:=hid (HB.out.same hk1);clear ho1 hk1)
  | (at_builtin
     refine EBy.law2 (.tmp 5) (.tmp 6) (.slice A1 e1.length c1) A b.length c rfl rfl rfl rfl w.heap.size e1.length (bcells e1) (bcells b) (encD b).length (bcells (encD b)) HEL.out (by rw [←HE.out,bcells_app]) HO1.out (by rw [bcells_len];omega) (HB1.out.src (Keep.refl (fun _=>False) _)) (bcells_one _) (by have:=HEL.out;omega) (by unfold maxLen;have:=HEL.out;omega) HK1.out.size ?_
     intro A2 c2 w2 ho hg hw
     have HO2:=hid ho
     have HK2:=hid (HK1.out.app HO1.out hg (fun g h1 h2=>by omega))
     clear ho hg hw))
 go_ret
 exact ⟨A2,c2,rfl,HO2.out,HK2.out⟩
set_option maxHeartbeats 8000000 in
set_option maxRecDepth 100000 in
theorem rints_any (w:World) (Av:Nat→Prop) (A:Option Addr) (c:Nat) (l:List Int) (hs:Sl w Av 1 A l.length (icells l)) (hl:l.length≤1000000) (hok:∀ x∈l,i64ok x):Calls Tryz.prog 55 #[.slice A l.length c] w (OwnPost w (encL l)):=by
 have HP:=hid (show Calls Tryz.prog 88 #[.agg #[.int .i64 4,.int .i64 0,.bool false,.string ⟨#[]⟩,.slice A l.length c]] w (OwnPost w (encL l)) from
  put_any w Av ⟨4,0,false,⟨#[]⟩,A,l.length,c,l⟩ ⟨hs⟩ ⟨by simp [Tm.pt],by simp [Tm.pt],⟨by simp [Tm.pt],by simp [Tm.pt]⟩,by simp [Tm.pt],hl,hok⟩)
 clear hs hok
 go_enter Tryz.func55,Tryz.ntmps55
 go_wp2_with (go_at_call 88;(with_reducible refine HP.out.mono ?_);rintro e w1 ⟨A1,c1,rfl,ho1,hk1⟩;have HO1:=hid ho1;have HK1:=hid hk1;clear ho1 hk1)
 go_ret
 exact ⟨A1,c1,rfl,HO1.out,HK1.out⟩
def lineT (s:CL) (A:Option Addr) (c:Nat):List Tm:=[⟨0,s.call,false,⟨#[]⟩,none,0,0,[]⟩,⟨0,s.st,false,⟨#[]⟩,none,0,0,[]⟩,⟨0,s.since,false,⟨#[]⟩,none,0,0,[]⟩,⟨0,s.cen,false,⟨#[]⟩,none,0,0,[]⟩,⟨0,s.ep,false,⟨#[]⟩,none,0,0,[]⟩,⟨3,0,false,s.name,none,0,0,[]⟩,⟨0,s.ver,false,⟨#[]⟩,none,0,0,[]⟩,⟨4,0,false,⟨#[]⟩,A,s.ans.length,c,s.ans⟩]
theorem lineT_put (s:CL) (A:Option Addr) (c:Nat):putAll ((lineT s A c).map Tm.pt)=encCL s:=by
 simp [lineT,putAll,putT,Tm.pt,encCL]
theorem okT0 {n:Int} (h:i64ok n):OkT (Tm.pt ⟨0,n,false,⟨#[]⟩,none,0,0,[]⟩):=⟨by simp [Tm.pt],by simp [Tm.pt],h,by simp [Tm.pt],by simp [Tm.pt],by simp [Tm.pt]⟩
theorem lineT_ok {s:CL} (h:OkL s) (A:Option Addr) (c:Nat):∀ x∈lineT s A c,OkT x.pt:=by
 intro x hx
 have h0:i64ok 0:=⟨by omega,by omega⟩
 simp only [lineT,List.mem_cons,List.not_mem_nil,or_false] at hx
 rcases hx with rfl | rfl | rfl | rfl | rfl | rfl | rfl | rfl
 ·exact okT0 h.call
 ·exact okT0 h.st
 ·exact okT0 h.since
 ·exact okT0 h.cen
 ·exact okT0 h.ep
 ·exact ⟨by simp [Tm.pt],by simp [Tm.pt],h0,(by have h1:=h.name;have h2:s.name.data.toList.length=s.name.size:=Array.length_toList;simp only [Tm.pt];omega),by simp [Tm.pt],by simp [Tm.pt]⟩
 ·exact okT0 h.ver
 ·exact ⟨by simp [Tm.pt],by simp [Tm.pt],h0,by simp [Tm.pt],(by have:=h.n;simp only [Tm.pt];omega),h.el⟩
theorem lineT_mem {w:World} {s:CL} {A:Option Addr} {c:Nat} (h:Sl w (fun _=>False) 1 A s.ans.length (icells s.ans)):∀ x∈lineT s A c,TmOk w (fun _=>False) x:=by
 intro x hx
 simp only [lineT,List.mem_cons,List.not_mem_nil,or_false] at hx
 rcases hx with rfl | rfl | rfl | rfl | rfl | rfl | rfl | rfl
 iterate 7 exact ⟨Sl.nil _ _ _ _⟩
 exact ⟨h⟩
set_option maxHeartbeats 8000000 in
set_option maxRecDepth 100000 in
theorem rline_any (w:World) (Av:Nat→Prop) (A:Option Addr) (c:Nat) (s:CL) (h:Sl w Av 1 A s.ans.length (icells s.ans)) (hok:OkL s):Calls Tryz.prog 53 #[.agg (s.cells A c).toArray] w (OwnPost w (encCL s)):=by
 have h0:=h.wide (Av':=fun _=>False) (fun _ _ f=>f.elim)
 have hk1:Same w (w.alloc (.cells (s.cells A c).toArray 50)):=(Keep.refl _ _).alloc _
 have hk2:Same w ((w.alloc (.cells (s.cells A c).toArray 50)).alloc (.cells (tFlat (lineT s A c)).toArray 171)):=hk1.alloc _
 have HK2:=hid hk2
 have hsl:=Sl.of_blk (Av:=fun _=>False) (size:=5) (n:=8) (Blk.made (w.alloc (.cells (s.cells A c).toArray 50)) 171 (tFlat (lineT s A c)).toArray) (by simp [tFlat,lineT,Tm.cells]) (fun f=>f)
 have HAL:=hid (pall_any _ (fun _=>False) _ 8 8 (lineT s A c) ⟨hsl,lineT_mem (h0.same hk2),lineT_ok hok A c⟩ (by omega) (by rw [lineT_put];have:=encCL_le hok;omega))
 rw [lineT_put,World.size_alloc] at HAL
 have HPO:=hid (fun e w' (h:OwnPost ((w.alloc (.cells (s.cells A c).toArray 50)).alloc (.cells (tFlat (lineT s A c)).toArray 171)) (encCL s) e w')=>OwnPost.of HK2.out h)
 generalize encCL s=bs at *
 clear h h0 hk1 hk2 hsl hok
 obtain ⟨call,st,since,cen,ep,name,ver,ans⟩:=s
 simp only [CL.cells,lineT,tFlat,Tm.cells,List.flatMap_cons,List.flatMap_nil,List.cons_append,List.nil_append,List.append_nil] at *
 go_enter Tryz.func53,Tryz.ntmps53
 go_wp2_with (go_at_call 87;(with_reducible refine HAL.out.mono ?_);rintro e w3 hp;obtain ⟨A3,c3,rfl,ho3,hk3⟩:=HPO.out _ _ hp;have HO3:=hid ho3;have HK3:=hid hk3;clear hp ho3 hk3)
 go_ret
 exact ⟨A3,c3,rfl,HO3.out,HK3.out⟩
theorem encIs_take {l:List Int} {j:Nat} {a:Int} (h:l[j]? = some a):encIs (l.take (j+1))=encIs (l.take j)++encI a:=by rw [take_snoc h];simp [encIs]
set_option maxHeartbeats 8000000 in
set_option maxRecDepth 100000 in
theorem rnums_any (w:World) (Av:Nat→Prop) (A:Option Addr) (c:Nat) (l:List Int) (hs:Sl w Av 1 A l.length (icells l)) (hl:l.length≤1000) (hok:∀ x∈l,i64ok x):Calls Tryz.prog 74 #[.slice A l.length c] w (OwnPost w (encIs l)):=by
 have HS:=hid (fun W (hk:Same w W)=>hs.same hk)
 have HOK:=hid hok
 have hle:∀ j,(encIs (l.take j)).length≤10000:=fun j=>by
  have h1:=encIs_le (l.take j) (fun x hx=>hok x (List.mem_of_mem_take hx))
  have h2:(l.take j).length≤l.length:=by rw [List.length_take];omega
  have:(l.take j).length * 10≤1000 * 10:=Nat.mul_le_mul_right _ (by omega)
  omega
 have HLE:=hid hle
 clear hs hok hle
 go_enter Tryz.func74,Tryz.ntmps74
 go_wp2_with fail
 go_loopw [3,4] (fun o i wr=>∃ (j:Nat) (B:Option Addr) (d m:Nat),j≤l.length∧i=.int .i64 j∧o=.slice B m d∧(encIs (l.take j)).length=m∧Hid (Own wr w.heap.size 5 1 (.slice B m d) m (bcells (encIs (l.take j)))∧Same w wr)) (fun _ i _=>l.length - (RowKit.intOf i).toNat)
 case atStart=>exact ⟨0,none,0,0,Nat.zero_le _,rfl,rfl,rfl,hid ⟨Own.nil _ _ _ _,Keep.refl _ _⟩⟩
 case round =>
  obtain ⟨j,B,d,m,hj,rfl,rfl,hm,HI⟩:=hrel
  by_cases hlt:j<l.length
  ·obtain ⟨a,ha⟩:=get_some hlt
   obtain ⟨b1,o1,rfl,_,q1⟩:=int_at (HS.out wr HI.out.2) ha
   have hj1:(j:Int)<(l.length:Int):=by omega
   have hj0:(0:Int)≤(j:Int):=Int.natCast_nonneg _
   have hao:=HOK.out a (List.mem_of_getElem? ha)
   have HP:=hid (pInt_any wr a hao.1 hao.2)
   unfold OwnPost at HP
   have HN:=hid (encIs_take ha)
   have hb1:m≤10000:=by have:=HLE.out j;omega
   have hb2:(encI a).length≤10:=encI_le hao
   have HM:=hid hm
   have hmm:m+(encI a).length=(encIs (l.take (j+1))).length:=by rw [HN.out,List.length_append,hm]
   have HMM:=hid hmm
   clear ha hm hao hmm
   go_wp2_with (first
    | (go_at_call 54;(with_reducible refine HP.out.mono ?_);rintro e w1 ⟨A1,c1,rfl,ho1,hk1⟩;have HO1:=hid (HI.out.1.keepB hk1 (fun _ _ f=>f));have HK1:=hid (HI.out.2.then hk1);have HS1:=hid (ho1.sl (Av:=fun _=>False) (fun _ _ f=>f));clear ho1 hk1)
    | (at_builtin
       refine EBy.law2 (.tmp 11) (.tmp 16) (.slice B m d) A1 (encI a).length c1 rfl rfl rfl rfl w.heap.size m (bcells (encIs (l.take j))) (bcells (encI a)) (encIs (l.take (j+1))).length (bcells (encIs (l.take (j+1)))) HMM.out (by rw [HN.out,bcells_app]) HO1.out (by rw [bcells_len];omega) (HS1.out.src (Keep.refl (fun _=>False) _)) (bcells_one _) (by have:=HMM.out;omega) (by unfold maxLen;have:=HMM.out;omega) HK1.out.size ?_
       intro A2 c2 w2 ho hg hw
       have HO2:=hid ho
       have HK2:=hid (HK1.out.app HO1.out hg (fun g h1 h2=>by omega))
       clear ho hg hw))
   go_roundw
   case rel=>first | exact ⟨j+1,A2,c2,_,by omega,by go_num,rfl,rfl,hid ⟨HO2.out,HK2.out⟩⟩ | ((repeat apply Exists.intro);refine And.intro ?_ rfl;exact ⟨j+1,A2,c2,_,by omega,by go_num,rfl,rfl,hid ⟨HO2.out,HK2.out⟩⟩)
   case measure=>simp [RowKit.intOf];omega
  ·obtain rfl:j=l.length:=by omega
   have HE:=hid (show encIs (l.take l.length)=encIs l from by rw [List.take_length])
   rw [HE.out] at HI hm
   subst hm
   go_wp2_with fail
   go_ret
   exact ⟨B,d,rfl,HI.out.1,HI.out.2⟩
theorem encM_split {m:Nt} (h:vM m=true):encM m=encIs [m.k,m.call,m.d,m.c,m.e,m.n,(m.body.length:Int)]++m.body:=by
 rw [encM,if_pos h]
 simp [encIs,encD]
set_option maxHeartbeats 8000000 in
set_option maxRecDepth 100000 in
theorem rwrite_any (w:World) (Av:Nat→Prop) (m:Nt) (A:Option Addr) (cap:Nat) (hS:Sl w Av 1 A m.body.length (bcells m.body)):Calls Tryz.prog 44 #[.agg (m.cells A cap).toArray] w (NB w (encM m)):=by
 have hk0:=(Keep.refl (fun _=>False) w).alloc (.cells (m.cells A cap).toArray 46)
 have HK0:=hid hk0
 have HB0:=hid (Blk.made w 46 (m.cells A cap).toArray)
 have HRN:=hid (fun W=>rightN_any W m A cap)
 have HS:=hid hS
 cases hv:vM m with
 | false =>
   have HE:=hid (show encM m=[] from by rw [encM,if_neg (by rw [hv];simp)])
   rw [hv] at HRN
   clear hS hk0 hv
   obtain ⟨k,call,d,c,e,n,body⟩:=m
   simp only [Nt.cells] at *
   go_enter Tryz.func44,Tryz.ntmps44
   go_wp2_with (go_at_call 73;(with_reducible refine (HRN.out _).mono ?_);rintro e1 w1 ⟨rfl,hk1⟩;have HK1:=hid (HK0.out.then hk1);clear hk1)
   go_ret
   rw [HE.out]
   exact ⟨none,0,rfl,Sl.nil _ _ _ _,HK1.out⟩
 | true =>
   obtain ⟨k1,k2,k3,k4,k5,k6⟩:=vM_ok hv
   have hbl:=(vM_iff.1 hv).2.2.2.2.2.2
   have HE:=hid (encM_split hv)
   rw [hv] at HRN
   have hL:∀ x∈[m.k,m.call,m.d,m.c,m.e,m.n,(m.body.length:Int)],i64ok x:=by
    intro x hx
    simp only [List.mem_cons,List.not_mem_nil,or_false] at hx
    rcases hx with rfl | rfl | rfl | rfl | rfl | rfl | rfl
    ·exact k1
    ·exact k2
    ·exact k3
    ·exact k4
    ·exact k5
    ·exact k6
    ·exact ⟨by omega,by omega⟩
   have hlen:(encIs [m.k,m.call,m.d,m.c,m.e,m.n,(m.body.length:Int)]).length≤70:=encIs_le _ hL
   have HNU:=hid (fun W=>rnums_any (W.alloc (.cells (icells [m.k,m.call,m.d,m.c,m.e,m.n,(m.body.length:Int)]).toArray 2)) (fun _=>False) (some ⟨W.heap.size,0,none⟩) 7 [m.k,m.call,m.d,m.c,m.e,m.n,(m.body.length:Int)]
    (Sl.of_blk (Blk.made W 2 (icells [m.k,m.call,m.d,m.c,m.e,m.n,(m.body.length:Int)]).toArray) (by simp) (fun f=>f)) (by simp) hL)
   have HLN:=hid hlen
   have HEL:=hid (show (encIs [m.k,m.call,m.d,m.c,m.e,m.n,(m.body.length:Int)]).length+m.body.length=(encM m).length from by rw [HE.out,List.length_append])
   clear hS hk0 hv k1 k2 k3 k4 k5 k6 hL hlen
   obtain ⟨k,call,d,c,e,n,body⟩:=m
   simp only [Nt.cells,icells,List.map_cons,List.map_nil] at *
   simp only [List.length_cons,List.length_nil,Nat.zero_add,Nat.reduceAdd] at HNU
   generalize encIs [k,call,d,c,e,n,(body.length:Int)]=e1 at *
   generalize encM ⟨k,call,d,c,e,n,body⟩=em at *
   unfold OwnPost at HNU
   go_enter Tryz.func44,Tryz.ntmps44
   go_wp2_with (first
    | (go_at_call 73;(with_reducible refine (HRN.out _).mono ?_);rintro e1 w1 ⟨rfl,hk1⟩;have HK1:=hid (HK0.out.then hk1);have hb1:=HB0.out.keep hk1 (fun f=>f);have HB1:=hid hb1;have z0:=hb1.at_ 0;have z1:=hb1.at_ 1;have z2:=hb1.at_ 2;have z3:=hb1.at_ 3;have z4:=hb1.at_ 4;have z5:=hb1.at_ 5;have z6:=hb1.at_ 6;simp only [List.getElem?_toArray,List.getElem?_cons_zero,List.getElem?_cons_succ] at z0 z1 z2 z3 z4 z5 z6;clear hk1 hb1)
    | (go_at_call 74;(with_reducible refine (HNU.out _).mono ?_);rintro e9 w3 ⟨A3,c3,rfl,ho3,hk3⟩
       have hka:Same w1 (w1.alloc (.cells #[.int .i64 k,.int .i64 call,.int .i64 d,.int .i64 c,.int .i64 e,.int .i64 n,.int .i64 (body.length:Int)] 2)):=(Keep.refl _ _).alloc _
       have HO3:=hid (ho3.rebase (base':=w.heap.size) (fun g hg=>Nat.le_trans (HK1.out.then hka).size (ho3.block g hg)))
       have HK3:=hid ((HK1.out.then hka).then hk3)
       have z6:w3.cell? ⟨w.heap.size,6,none⟩=some (.slice A body.length cap):=(HB1.out.keep (hka.then hk3) (fun f=>f)).at_ 6
       have HS3:=hid (HS.out.same HK3.out)
       clear ho3 hk3 hka)
    | (at_builtin
       refine EBy.law2 (.tmp 24) (.tmp 26) (.slice A3 e1.length c3) A body.length cap rfl rfl rfl rfl w.heap.size e1.length (bcells e1) (bcells body) em.length (bcells em) HEL.out (by rw [HE.out,bcells_app]) HO3.out (by rw [bcells_len];omega) (HS3.out.src (Keep.refl (fun _=>False) _)) (bcells_one _) (by have:=HEL.out;have:=HLN.out;omega) (by unfold maxLen;have:=HEL.out;have:=HLN.out;omega) HK3.out.size ?_
       intro A4 c4 w4 ho hg hw
       have HO4:=hid ho
       have HK4:=hid (HK3.out.app HO3.out hg (fun g h1 h2=>by omega))
       clear ho hg hw))
   go_ret
   exact ⟨A4,c4,rfl,HO4.out.slN,HK4.out⟩
structure QA where
 s:CL
 A:Option Addr
 c:Nat
 d:Int
 B:Option Addr
 bc:Nat
 src:List SA
 last:Int
def QA.cells (x:QA):List Value:=[.int .i64 x.s.call,.int .i64 x.s.st,.int .i64 x.s.since,.int .i64 x.s.cen,.int .i64 x.s.ep,.string x.s.name,.int .i64 x.s.ver,.slice x.A x.s.ans.length x.c,.int .i64 x.d,.slice x.B x.src.length x.bc,.int .i64 x.last]
def QA.pt (x:QA):Ln:=⟨x.s,x.d,x.src.map SA.pt,x.last⟩
structure QAt (w:World) (Av:Nat→Prop) (x:QA):Prop where
 an:Sl w Av 1 x.A x.s.ans.length (icells x.s.ans)
 src:SAs w Av x.B x.src
theorem QAt.same {w w':World} {Av:Nat→Prop} {x:QA} (h:QAt w Av x) (hk:Same w w'):QAt w' Av x:=⟨h.an.same hk,h.src.same hk⟩
theorem bcells_sum {a b c:List UInt8} {n:Nat} (h:a++b=c) (hn:a.length=n):n+b.length=c.length:=by rw [←h,List.length_append,hn]
set_option maxHeartbeats 8000000 in
set_option maxRecDepth 100000 in
theorem body_any (w:World) (Av:Nat→Prop) (x:QA) (h:QAt w Av x) (hok:LnOk x.pt):Calls Tryz.prog 24 #[.agg x.cells.toArray] w (OwnPost w (bodyL x.pt)):=by
 have hbl:=bodyL_len hok
 obtain ⟨hbl1,hbl2,hbl3,hbl4⟩:=hbl
 have hsrn:=hok.src.n
 have hsl:x.pt.src.length=x.src.length:=by simp [QA.pt]
 rw [hsl] at hsrn hbl3
 have hbl1:(encD (encCL x.s)).length≤3010:=hbl1
 have hbl2:(encI x.d).length≤10:=hbl2
 have hbl4:(encS (x.src.map SA.pt)).length≤32320:=hbl4
 have hxe:(encCL x.s).length≤3000:=encCL_le hok.vl.ok
 have hd:i64ok x.d:=hok.d
 have HBL:=hid (show bodyL x.pt=(encD (encCL x.s)++encI x.d)++encI (x.src.length:Int)++encS (x.src.map SA.pt) by simp [bodyL,QA.pt])
 have hk0:Same w (w.alloc (.cells x.cells.toArray 53)):=(Keep.refl _ _).alloc _
 have hb0:=Blk.made w 53 x.cells.toArray
 have HB0:=hid hb0
 have HK0:=hid hk0
 have HKW:=hid hk0
 have HLI:=hid (fun W (hk:Same w W)=>rline_any W Av x.A x.c x.s (h.an.same hk) hok.vl.ok)
 have HSR:=hid (fun W (hk:Same w W)=>h.src.same hk)
 have HOK:=hid hok
 have HO0:=hid (Own.lit0 (w.alloc (.cells x.cells.toArray 53)) 5 1)
 rw [World.size_alloc] at HO0
 have HP:=hid (fun bs e w' (h:OwnPost (w.alloc (.cells x.cells.toArray 53)) bs e w')=>OwnPost.of hk0 h)
 have HID:=hid (fun W=>pInt_any W x.d hd.1 hd.2)
 have HIL:=hid (fun W=>pInt_any W (x.src.length:Int) (by omega) (by omega))
 unfold OwnPost at HLI HID HIL
 have HXE:=hid hxe
 have HLB:=hid (And.intro hbl1 (And.intro hbl2 hbl4))
 clear h hok hb0 hk0 hbl1 hbl2 hbl4 hxe hd hsl
 obtain ⟨s,A,c,d,B,bc,src,last⟩:=x
 simp only [QA.cells,QA.pt] at *
 obtain ⟨call,st,since,cen,ep,name,ver,ans⟩:=s
 simp only [CL.cells] at *
 generalize hE1:encCL ⟨call,st,since,cen,ep,name,ver,ans⟩=eL at *
 go_enter Tryz.func24,Tryz.ntmps24
 go_upto_region 2 with (first
  | (go_at_call 53;(with_reducible refine (HLI.out _ (HK0.out.alloc _)).mono ?_);rintro e w1 ⟨A1,c1,rfl,ho1,hk1⟩
     generalize (Value.slice (some ⟨w.heap.size+1,0,none⟩) 0 0)=v0 at HO0 ⊢
     have hs1:=ho1.sl (Av:=fun _=>False) (fun _ _ f=>f)
     have HO1:=hid (HO0.out.keepB hk1 (fun _ _ f=>f))
     have HK1:=hid (((Keep.refl (fun _=>False) (w.alloc (.cells #[.int .i64 call,.int .i64 st,.int .i64 since,.int .i64 cen,.int .i64 ep,.string name,.int .i64 ver,.slice A ans.length c,.int .i64 d,.slice B src.length bc,.int .i64 last] 53))).alloc (.cells #[] 5)).then hk1)
     have HBY:=hid (rbytes_any w1 (fun _=>False) A1 c1 eL hs1 (by have:=HXE.out;omega))
     unfold OwnPost at HBY
     clear ho1 hk1 hs1)
  | (go_at_call 52;(with_reducible refine HBY.out.mono ?_);rintro e w2 ⟨A2,c2,rfl,ho2,hk2⟩
     have HS2:=hid (ho2.sl (Av:=fun _=>False) (fun _ _ f=>f))
     have HO2:=hid (HO1.out.keepB hk2 (fun _ _ f=>f))
     have HK2:=hid (HK1.out.then hk2)
     have h16:=HLB.out.1
     clear ho2 hk2)
  | (at_builtin
     refine EBy.law2 (.tmp 6) (.tmp 10) v0 A2 (encD eL).length c2 rfl rfl rfl rfl (w.heap.size+1) 0 [] (bcells (encD eL)) (encD eL).length (bcells (encD eL)) (by simp) (by simp) HO2.out (by rw [bcells_len];omega) (HS2.out.src (Keep.refl (fun _=>False) _)) (bcells_one _) (by omega) (by unfold maxLen;omega) (by have:=HK2.out.size;rw [World.size_alloc] at this;exact this) ?_
     intro A3 c3 w3 ho hg hw
     have HO3:=hid ho
     have HK3:=hid (HK2.out.app HO2.out hg (fun g h1 h2=>by rw [World.size_alloc] at h2;omega))
     have z8:w3.cell? ⟨w.heap.size,8,none⟩=some (.int .i64 d):=(HB0.out.keep HK3.out (fun f=>f)).at_ 8
     clear ho hg hw))
 generalize hw0:w.alloc (.cells #[.int .i64 call,.int .i64 st,.int .i64 since,.int .i64 cen,.int .i64 ep,.string name,.int .i64 ver,.slice A ans.length c,.int .i64 d,.slice B src.length bc,.int .i64 last] 53)=w0 at *
 have HLT:=hid (show w0.heap.size=w.heap.size+1 from by rw [←hw0,World.size_alloc])
 have HLE:=hid (Nat.le_of_eq HLT.out.symm)
 clear hw0
 have HL1:=hid (show (encD eL).length≤3010 from HLB.out.1)
 generalize encD eL=b1 at *
 obtain ⟨b2,hb2⟩:∃ b2,b1++encI d=b2:=⟨_,rfl⟩
 have HL2:=hid (show b2.length≤3020 from by have:=HL1.out;have:=HLB.out.2.1;rw [←hb2,List.length_append];omega)
 rw [hb2] at HBL
 have HE2:=hid hb2
 clear hb2
 obtain ⟨b3,hb3⟩:∃ b3,b2++encI (src.length:Int)=b3:=⟨_,rfl⟩
 have HL3:=hid (show b3.length≤3030 from by have:=HL2.out;rw [←hb3,List.length_append];omega)
 rw [hb3] at HBL
 have HE3:=hid hb3
 clear hb3
 go_upto_region 3 with (first
  | (go_at_call 54;(with_reducible refine (HID.out _).mono ?_);rintro e9 w4a ⟨A4a,c4a,rfl,ho9,hk9⟩;have HS4:=hid (ho9.sl (Av:=fun _=>False) (fun _ _ f=>f));have HO4a:=hid (HO3.out.keepB hk9 (fun _ _ f=>f));have HK4a:=hid (HK3.out.then hk9);have HR4a:=hid hk9;clear ho9 hk9)
  | (at_builtin
     refine EBy.law2 (.tmp 12) (.tmp 15) (.slice A3 b1.length c3) A4a (encI d).length c4a rfl rfl rfl rfl (w.heap.size+1) b1.length (bcells b1) (bcells (encI d)) b2.length (bcells b2) (by rw [←HE2.out,List.length_append]) (by rw [←HE2.out,bcells_app]) HO4a.out (by rw [bcells_len];omega) (HS4.out.src (Keep.refl (fun _=>False) _)) (bcells_one _) (by have:=HL2.out;omega) (by unfold maxLen;have:=HL2.out;omega) (Nat.le_trans HLE.out HK4a.out.size) ?_
     intro A4 c4 w4 ho9 hg9 hw9
     have HO4:=hid ho9
     have HK4:=hid (HK4a.out.app HO4a.out hg9 (fun g h1 h2=>by have:=HLT.out;omega))
     have z9:w4.cell? ⟨w.heap.size,9,none⟩=some (.slice B src.length bc):=(HB0.out.keep HK4.out (fun f=>f)).at_ 9
     clear ho9 hg9 hw9))
 go_upto_region 4 with (first
  | (go_at_call 54;(with_reducible refine (HIL.out _).mono ?_);rintro e9 w5a ⟨A5a,c5a,rfl,ho9,hk9⟩;have HS5:=hid (ho9.sl (Av:=fun _=>False) (fun _ _ f=>f));have HO5a:=hid (HO4.out.keepB hk9 (fun _ _ f=>f));have HK5a:=hid (HK4.out.then hk9);have HR5a:=hid hk9;clear ho9 hk9)
  | (at_builtin
     refine EBy.law2 (.tmp 17) (.tmp 21) (.slice A4 b2.length c4) A5a (encI (src.length:Int)).length c5a rfl rfl rfl rfl (w.heap.size+1) b2.length (bcells b2) (bcells (encI (src.length:Int))) b3.length (bcells b3) (by rw [←HE3.out,List.length_append]) (by rw [←HE3.out,bcells_app]) HO5a.out (by rw [bcells_len];omega) (HS5.out.src (Keep.refl (fun _=>False) _)) (bcells_one _) (by have:=HL3.out;omega) (by unfold maxLen;have:=HL3.out;omega) (Nat.le_trans HLE.out HK5a.out.size) ?_
     intro A5 c5 w5 ho9 hg9 hw9
     have HO5:=hid ho9
     have HK5:=hid (HK5a.out.app HO5a.out hg9 (fun g h1 h2=>by have:=HLT.out;omega))
     have z9:w5.cell? ⟨w.heap.size,9,none⟩=some (.slice B src.length bc):=(HB0.out.keep HK5.out (fun f=>f)).at_ 9
     clear ho9 hg9 hw9))
 clear z8
 go_wp2_with fail
 go_loopw [3,26] (fun o i wr=>∃ (j:Nat) (V:Option Addr) (v m:Nat),j≤src.length∧i=.int .i64 j∧o=.slice V m v∧(b3++encS ((src.map SA.pt).take j)).length=m∧Hid (Own wr (w.heap.size+1) 5 1 (.slice V m v) m (bcells (b3++encS ((src.map SA.pt).take j)))∧Same w0 wr)) (fun _ i _=>src.length - (RowKit.intOf i).toNat)
 case atStart=>exact ⟨0,_,_,_,Nat.zero_le _,rfl,rfl,by simp [encS],hid ⟨by have:=HO5.out;simpa [encS] using this,HK5.out⟩⟩
 case round =>
  obtain ⟨j,V,v,m,hj,rfl,rfl,hm,HI⟩:=hrel
  by_cases hlt:j<src.length
  ·obtain ⟨a,ha⟩:=get_some hlt
   have hww:Same w wr:=HKW.out.then HI.out.2
   obtain ⟨b',o',hBB,_,y0,y1⟩:=(HSR.out wr hww).at_ ha
   subst hBB
   have hj1:(j:Int)<(src.length:Int):=by omega
   have hj0:(0:Int)≤(j:Int):=Int.natCast_nonneg _
   have hel:=fun W (hk:Same w W)=>(HSR.out W hk).el a (List.mem_of_getElem? ha)
   have hao:i64ok a.pt.k∧a.pt.nd.length≤200∧∀ n∈a.pt.nd,i64ok n:=HOK.out.src.el a.pt (List.mem_map.2 ⟨a,List.mem_of_getElem? ha,rfl⟩)
   have HTK:=hid (encS_take (l:=src.map SA.pt) (k:=j) (s:=a.pt) (by rw [List.getElem?_map,ha];rfl))
   have hlt2:(encS ((src.map SA.pt).take j)).length≤32320:=by
    have h1:=encS_len ((src.map SA.pt).take j) (fun s hs=>HOK.out.src.el s (List.mem_of_mem_take hs))
    rw [List.length_take,List.length_map] at h1
    have h2:min j src.length≤16:=by omega
    have h3:min j src.length * 2020≤16 * 2020:=Nat.mul_le_mul_right _ h2
    omega
   obtain ⟨ak,aA,ac,and_⟩:=a
   simp only [SA.pt] at hao HTK
   simp only at y0 y1 hel
   have HEL:=hid hel
   obtain ⟨hak,han,hae⟩:=hao
   have HAK:=hid (fun W=>pInt_any W ak hak.1 hak.2)
   have HAN:=hid (fun W (hk:Same w W)=>rints_any W Av aA ac and_ (HEL.out W hk) (by omega) hae)
   unfold OwnPost at HAK HAN
   have hki:(encI ak).length≤10:=encI_le hak
   have hli:(encL and_).length≤2010:=by have:=encL_le' (l:=and_) (by omega) hae;omega
   have HL4:=hid (show (b3++encS ((src.map SA.pt).take j)).length≤35350 from by have:=HL3.out;rw [List.length_append];omega)
   generalize hbj:b3++encS ((src.map SA.pt).take j)=bj at *
   subst hm
   have HBJ:=hid hbj
   have hka:Same wr (wr.alloc (.cells #[.int .i64 ak,.slice aA and_.length ac] 129)):=(Keep.refl _ _).alloc _
   have HBK:=hid (Blk.made wr 129 #[.int .i64 ak,.slice aA and_.length ac])
   have HOA:=hid (HI.out.1.keepB hka (fun _ _ f=>f))
   have HKA:=hid (HI.out.2.then hka)
   have HKA2:=hid hka
   have HNQ:=hid (show ¬(Value.slice V bj.length v).ownBlock=some wr.heap.size from fun e=>by have:=HI.out.1.lt _ e;omega)
   obtain ⟨b6,hb6⟩:∃ b6,bj++encI ak=b6:=⟨_,rfl⟩
   obtain ⟨b7,hb7⟩:∃ b7,b6++encL and_=b7:=⟨_,rfl⟩
   have HL6:=hid (show b6.length≤35360 from by have:=HL4.out;rw [←hb6,List.length_append];omega)
   have HL7:=hid (show b7.length≤37370 from by have:=HL6.out;rw [←hb7,List.length_append];omega)
   have HE6:=hid hb6
   have HE7:=hid hb7
   have HN7:=hid (show b3++encS ((src.map SA.pt).take (j+1))=b7 from by rw [HTK.out,←hb7,←hb6,←HBJ.out];simp)
   clear hb6 hb7
   clear ha hel hae hak han hlt2 hbj hka hww
   go_wp2_with (first
    | (go_at_call 54;(with_reducible refine (HAK.out _).mono ?_);rintro e9 w6a ⟨A6a,c6a,rfl,ho9,hk9⟩;have HS6:=hid (ho9.sl (Av:=fun _=>False) (fun _ _ f=>f));have HO6a:=hid (HOA.out.keepB hk9 (fun _ _ f=>f));have HK6a:=hid (HKA.out.then hk9);have HR6a:=hid hk9;clear ho9 hk9)
    | (at_builtin
       refine EBy.law2 (.tmp 30) (.tmp 33) (.slice V bj.length v) A6a (encI ak).length c6a rfl rfl rfl rfl (w.heap.size+1) bj.length (bcells bj) (bcells (encI ak)) b6.length (bcells b6) (by rw [←HE6.out,List.length_append]) (by rw [←HE6.out,bcells_app]) HO6a.out (by rw [bcells_len];omega) (HS6.out.src (Keep.refl (fun _=>False) _)) (bcells_one _) (by have:=HL6.out;omega) (by unfold maxLen;have:=HL6.out;omega) (Nat.le_trans HLE.out HK6a.out.size) ?_
       intro A6 c6 w6 ho9 hg9 hw9
       have HO6:=hid ho9
       have HK6:=hid (HK6a.out.app HO6a.out hg9 (fun g h1 h2=>by have:=HLT.out;omega))
       have y9:w6.cell? ⟨wr.heap.size,1,none⟩=some (.slice aA and_.length ac):=((HBK.out.keep HR6a.out (fun f=>f)).keep ((Keep.refl (fun i=>(Value.slice V bj.length v).ownBlock=some i) _).grown hg9 (fun x e _=>e)) (fun e=>HNQ.out e)).at_ 1
       clear ho9 hg9 hw9)
    | (go_at_call 55;(with_reducible refine (HAN.out _ (HKW.out.then HK6.out)).mono ?_);rintro e9 w7a ⟨A7a,c7a,rfl,ho9,hk9⟩;have HS7:=hid (ho9.sl (Av:=fun _=>False) (fun _ _ f=>f));have HO7a:=hid (HO6.out.keepB hk9 (fun _ _ f=>f));have HK7a:=hid (HK6.out.then hk9);have HR7a:=hid hk9;clear ho9 hk9)
    | (at_builtin
       refine EBy.law2 (.tmp 35) (.tmp 38) (.slice A6 b6.length c6) A7a (encL and_).length c7a rfl rfl rfl rfl (w.heap.size+1) b6.length (bcells b6) (bcells (encL and_)) b7.length (bcells b7) (by rw [←HE7.out,List.length_append]) (by rw [←HE7.out,bcells_app]) HO7a.out (by rw [bcells_len];omega) (HS7.out.src (Keep.refl (fun _=>False) _)) (bcells_one _) (by have:=HL7.out;omega) (by unfold maxLen;have:=HL7.out;omega) (Nat.le_trans HLE.out HK7a.out.size) ?_
       intro A7 c7 w7 ho9 hg9 hw9
       have HO7:=hid ho9
       have HK7:=hid (HK7a.out.app HO7a.out hg9 (fun g h1 h2=>by have:=HLT.out;omega))
       clear ho9 hg9 hw9))
   go_roundw
   case rel=>first | exact ⟨j+1,A7,c7,b7.length,by omega,by go_num,rfl,by rw [HN7.out],hid ⟨by rw [HN7.out];exact HO7.out,HK7.out⟩⟩ | ((repeat apply Exists.intro);refine And.intro ?_ rfl;exact ⟨j+1,A7,c7,b7.length,by omega,by go_num,rfl,by rw [HN7.out],hid ⟨by rw [HN7.out];exact HO7.out,HK7.out⟩⟩)
   case measure=>simp [RowKit.intOf];omega
  ·obtain rfl:j=src.length:=by omega
   have HE:=hid (show b3++encS ((src.map SA.pt).take src.length)=bodyL ⟨⟨call,st,since,cen,ep,name,ver,ans⟩,d,src.map SA.pt,last⟩ from by rw [HBL.out,List.take_of_length_le (by simp)])
   rw [HE.out] at HI hm
   subst hm
   go_wp2_with fail
   go_ret
   exact HP.out _ _ _ ⟨V,v,rfl,by have h1:=HI.out.1;have h2:=HLT.out;rw [h2];exact h1,HI.out.2⟩
structure QS where
 c:CF
 LA:Option Addr
 lc:Nat
 R:List QA
 WA:Option Addr
 wc:Nat
 who:List Int
 EA:Option Addr
 ec:Nat
 ep:List Int
 OA:Option Addr
 oc:Nat
 out:List PkA
 VA:Option Addr
 vc:Nat
 ev:List Ev
def QS.cells (q:QS):List Value:=[.int .i64 q.c.cen,.slice q.c.D q.c.dis.length q.c.cD,.slice q.c.E q.c.edg.length q.c.cE,.slice q.c.U q.c.uni.length q.c.cU,.slice q.c.P q.c.pla.length q.c.cP,
 .int .i64 q.c.h0,.int .i64 q.c.h1,.int .i64 q.c.h2,.int .i64 q.c.h3,.int .i64 q.c.h4,.int .i64 q.c.h5,.int .i64 q.c.h6,.int .i64 q.c.h7,.int .i64 q.c.h8,.int .i64 q.c.h9,
 .slice q.LA q.R.length q.lc,.slice q.WA q.who.length q.wc,.slice q.EA q.ep.length q.ec,.slice q.OA q.out.length q.oc,.slice q.VA q.ev.length q.vc]
def QS.pt (q:QS):XS:=⟨q.c.cen,q.c.dis,q.c.h5,q.who,q.ep,q.R.map QA.pt,q.out.map PkA.pt,q.ev⟩
structure RX (w:World) (Av:Nat→Prop) (q:QS):Prop where
 L:Sl w Av 11 q.LA q.R.length (q.R.flatMap QA.cells)
 lin:∀ x∈q.R,QAt w Av x
 who:Sl w Av 1 q.WA q.who.length (icells q.who)
 ep:Sl w Av 1 q.EA q.ep.length (icells q.ep)
 out:Sl w Av 3 q.OA q.out.length (q.out.flatMap PkA.cells)
 body:∀ y∈q.out,Sl w Av 1 y.A y.b.length (bcells y.b)
 ev:Sl w Av 28 q.VA q.ev.length (q.ev.flatMap Ev.cells)
theorem RX.same {w w':World} {Av:Nat→Prop} {q:QS} (h:RX w Av q) (hk:Same w w'):RX w' Av q :=
 ⟨h.L.same hk,fun x hx=>(h.lin x hx).same hk,h.who.same hk,h.ep.same hk,h.out.same hk,fun y hy=>(h.body y hy).same hk,h.ev.same hk⟩
def QPost (w:World) (Av:Nat→Prop) (c:CF) (X:XS) (e:Ending) (w':World):Prop:=∃ q:QS,e=.returned (.agg q.cells.toArray)∧RX w' Av q∧q.pt=X∧q.c=c∧Same w w'
theorem q_one (q:QS):∀ v∈q.cells,v.oneCell'=true:=by
 intro u hu
 simp only [QS.cells,List.mem_cons,List.not_mem_nil,or_false] at hu
 rcases hu with rfl | rfl | rfl | rfl | rfl | rfl | rfl | rfl | rfl | rfl | rfl | rfl | rfl | rfl | rfl | rfl | rfl | rfl | rfl | rfl <;> rfl
def zero20:List Value:=[.int .i64 0,.slice none 0 0,.slice none 0 0,.slice none 0 0,.slice none 0 0,.int .i64 0,.int .i64 0,.int .i64 0,.int .i64 0,.int .i64 0,.int .i64 0,.int .i64 0,.int .i64 0,.int .i64 0,.int .i64 0,.slice none 0 0,.slice none 0 0,.slice none 0 0,.slice none 0 0,.slice none 0 0]
theorem one_restY {F G:Option Addr→Nat→Option Addr→Nat→Nat→World→Prop} {goal:Prop} (main:(∀ a b x c g W,F a b x c g W→G a b x c g W)→goal) (rest:∀ a b x c g W,F a b x c g W→G a b x c g W):goal:=main rest
theorem evs_one (l:List Ev):∀ u∈l.flatMap Ev.cells,u.oneCell'=true:=by
 intro u hu
 obtain ⟨y,_,hy⟩:=List.mem_flatMap.1 hu
 exact ev_one y u hy
set_option maxHeartbeats 8000000 in
set_option maxRecDepth 100000 in
theorem event_any (w:World) (Av:Nat→Prop) (hAv:∀ i,Av i→i<w.heap.size) (q:QS) (h:RX w Av q) (hn:q.ev.length≤900000) (y:Ev):Calls Tryz.prog 104 #[.agg q.cells.toArray,.agg y.cells.toArray] w (QPost w Av q.c (q.pt.evt y))  :=by
 show Calls Tryz.prog 104 #[.agg q.cells.toArray,.agg #[.int .i64 y.k,.int .i64 y.t,.int .i64 y.w,.int .i64 y.c,.int .i64 y.e,.int .i64 y.n,.int .i64 0,.int .i64 0,.slice none 0 0,.int .i64 0,.int .i64 0,.int .i64 0,.int .i64 0,.int .i64 0,.int .i64 0,.int .i64 0,.int .i64 0,.int .i64 0,.int .i64 0,.int .i64 0,.int .i64 0,.int .i64 0,.int .i64 0,.int .i64 0,.int .i64 0,.slice none 0 0,.slice none 0 0,.slice none 0 0]] w (QPost w Av q.c (q.pt.evt y))
 have hm:=((Blk.made w 35 q.cells.toArray).alloc (.cells #[.int .i64 y.k,.int .i64 y.t,.int .i64 y.w,.int .i64 y.c,.int .i64 y.e,.int .i64 y.n,.int .i64 0,.int .i64 0,.slice none 0 0,.int .i64 0,.int .i64 0,.int .i64 0,.int .i64 0,.int .i64 0,.int .i64 0,.int .i64 0,.int .i64 0,.int .i64 0,.int .i64 0,.int .i64 0,.int .i64 0,.int .i64 0,.int .i64 0,.int .i64 0,.int .i64 0,.slice none 0 0,.slice none 0 0,.slice none 0 0] 104)).alloc (.cells zero20.toArray 35)
 have he:=(Blk.made (w.alloc (.cells q.cells.toArray 35)) 104 #[.int .i64 y.k,.int .i64 y.t,.int .i64 y.w,.int .i64 y.c,.int .i64 y.e,.int .i64 y.n,.int .i64 0,.int .i64 0,.slice none 0 0,.int .i64 0,.int .i64 0,.int .i64 0,.int .i64 0,.int .i64 0,.int .i64 0,.int .i64 0,.int .i64 0,.int .i64 0,.int .i64 0,.int .i64 0,.int .i64 0,.int .i64 0,.int .i64 0,.int .i64 0,.int .i64 0,.slice none 0 0,.slice none 0 0,.slice none 0 0]).alloc (.cells zero20.toArray 35)
 have hz:=Blk.made ((w.alloc (.cells q.cells.toArray 35)).alloc (.cells #[.int .i64 y.k,.int .i64 y.t,.int .i64 y.w,.int .i64 y.c,.int .i64 y.e,.int .i64 y.n,.int .i64 0,.int .i64 0,.slice none 0 0,.int .i64 0,.int .i64 0,.int .i64 0,.int .i64 0,.int .i64 0,.int .i64 0,.int .i64 0,.int .i64 0,.int .i64 0,.int .i64 0,.int .i64 0,.int .i64 0,.int .i64 0,.int .i64 0,.int .i64 0,.int .i64 0,.slice none 0 0,.slice none 0 0,.slice none 0 0] 104)) 35 zero20.toArray
 have hw:Same w (((w.alloc (.cells q.cells.toArray 35)).alloc (.cells #[.int .i64 y.k,.int .i64 y.t,.int .i64 y.w,.int .i64 y.c,.int .i64 y.e,.int .i64 y.n,.int .i64 0,.int .i64 0,.slice none 0 0,.int .i64 0,.int .i64 0,.int .i64 0,.int .i64 0,.int .i64 0,.int .i64 0,.int .i64 0,.int .i64 0,.int .i64 0,.int .i64 0,.int .i64 0,.int .i64 0,.int .i64 0,.int .i64 0,.int .i64 0,.int .i64 0,.slice none 0 0,.slice none 0 0,.slice none 0 0] 104)).alloc (.cells zero20.toArray 35)):=(((Keep.refl _ _).alloc _).alloc _).alloc _
 rw [World.size_alloc] at he
 rw [World.size_alloc,World.size_alloc] at hz
 generalize hw1:(((w.alloc (.cells q.cells.toArray 35)).alloc (.cells #[.int .i64 y.k,.int .i64 y.t,.int .i64 y.w,.int .i64 y.c,.int .i64 y.e,.int .i64 y.n,.int .i64 0,.int .i64 0,.slice none 0 0,.int .i64 0,.int .i64 0,.int .i64 0,.int .i64 0,.int .i64 0,.int .i64 0,.int .i64 0,.int .i64 0,.int .i64 0,.int .i64 0,.int .i64 0,.int .i64 0,.int .i64 0,.int .i64 0,.int .i64 0,.int .i64 0,.slice none 0 0,.slice none 0 0,.slice none 0 0] 104)).alloc (.cells zero20.toArray 35))=w1 at *
 have hsz:w1.heap.size=w.heap.size+3:=by rw [←hw1];simp only [World.size_alloc]
 have HM:=hid hm
 have HE:=hid he
 have HZ:=hid hz
 have HW:=hid hw
 have HR:=hid h
 have HAV:=hid hAv
 have HSZ:=hid hsz
 have z19:w1.cell? ⟨w.heap.size,19,none⟩=some (.slice q.VA q.ev.length q.vc):=hm.at_ 19
 clear hm he hz hw h hAv hsz
 obtain ⟨g0,hg0⟩:∃ g,g=w.heap.size:=⟨_,rfl⟩
 go_enter Tryz.func104,Tryz.ntmps104
 go_upto_region 2 with fail
 try simp only [zero20] at hw1
 try rw [hw1]
 rw [←hg0] at HM HE HZ z19 HSZ ⊢
 have HG0:=hid hg0
 clear hg0 hw1
 refine wp_region_held_drew (S:=fun W=>Blk W (g0+1) 104 #[.int .i64 y.k,.int .i64 y.t,.int .i64 y.w,.int .i64 y.c,.int .i64 y.e,.int .i64 y.n,.int .i64 0,.int .i64 0,.slice none 0 0,.int .i64 0,.int .i64 0,.int .i64 0,.int .i64 0,.int .i64 0,.int .i64 0,.int .i64 0,.int .i64 0,.int .i64 0,.int .i64 0,.int .i64 0,.int .i64 0,.int .i64 0,.int .i64 0,.int .i64 0,.int .i64 0,.slice none 0 0,.slice none 0 0,.slice none 0 0]) (by kernel_rfl) HE.out (fun hHeld=>?_)
 refine tk 0 ?_
 refine tk 1 ?_
 refine tL 4 (.tmp 3) (g0+1) 104 (#[.int .i64 y.k,.int .i64 y.t,.int .i64 y.w,.int .i64 y.c,.int .i64 y.e,.int .i64 y.n,.int .i64 0,.int .i64 0,.slice none 0 0,.int .i64 0,.int .i64 0,.int .i64 0,.int .i64 0,.int .i64 0,.int .i64 0,.int .i64 0,.int .i64 0,.int .i64 0,.int .i64 0,.int .i64 0,.int .i64 0,.int .i64 0,.int .i64 0,.int .i64 0,.int .i64 0,.slice none 0 0,.slice none 0 0,.slice none 0 0]) (fun W hS=>hS) Tryz.underlying104 ?_
 have HMd:=hid (HM.out.keep (Keep.refl (fun _=>False) w1).drew (fun f=>f))
 have HEd:=hid (HE.out.keep (Keep.refl (fun _=>False) w1).drew (fun f=>f))
 have HZd:=hid (HZ.out.keep (Keep.refl (fun _=>False) w1).drew (fun f=>f))
 have HVd:=hid ((HR.out.ev.same HW.out).same (Keep.refl (fun _=>False) w1).drew)
 have HKd:=hid (HW.out.drew)
 have HSd:=hid (show w1.drew.heap.size=g0+3 from HSZ.out)
 clear hHeld z19 HM HE HZ HW HSZ
 generalize w1.drew=wd at *
 apply one_restY (F:=fun _ _ A c _ W=>∃ U,Own U wd.heap.size 104 28 (.slice A (q.ev.length+1) c) (q.ev.length+1) ((q.ev++[y]).flatMap Ev.cells)∧Same wd U∧W=U.setCell ⟨g0,19,none⟩ (.slice A (q.ev.length+1) c))
 case main =>
  intro REST
  refine wpAnyH_ready (rs:=[2,5]) (by kernel_rfl) (by simp) ?_
  refine AllReadyH.cons rfl (fun K hK=>?_) (AllReadyH.cons rfl (fun K hK=>?_) AllReadyH.nil)
  ·have e1:wd.cell? ⟨g0,19,none⟩=some (.slice q.VA q.ev.length q.vc):=(HMd.out.keep (Keep.refl (fun _=>False) wd) (fun f=>f)).at_ 19
   go_simp
   clear e1
   refine hK.out _ _ (HEd.out.keep (Keep.refl (fun _=>False) wd) (fun f=>f)) (fun hHeld1=>?_)
   clear hK K
   refine pput ?_
   refine wpAnyH_ready (rs:=[3,5]) (by kernel_rfl) (by simp) ?_
   refine AllReadyH.cons rfl (fun K hK=>?_) (AllReadyH.cons rfl (fun K hK=>?_) AllReadyH.nil)
   ·refine EEv.step2 rfl (.tmp 6) (.tmp 8) rfl (.slice none 0 0) q.VA q.ev.length q.vc rfl rfl wd.heap.size 0 [] (q.ev.flatMap Ev.cells) q.ev.length (q.ev.flatMap Ev.cells) (Nat.zero_add _) rfl (Own.nil _ _ _ _) (flat_len _ 28 (fun _=>rfl) _) (HVd.out.src (Keep.refl (fun _=>False) wd)) (evs_one _) (by omega) (by unfold maxLen;omega) (Keep.refl (fun _=>False) wd).size (by
     intro A32 c32 u2 ho hg hw
     have HO2:=hid ho
     have hk2:=(Keep.refl (fun _=>False) wd).app (Own.nil wd wd.heap.size 104 28) hg (fun g h1 h2=>by omega)
     have HK2:=hid ((Keep.refl (fun _=>False) wd).then hk2)
     clear ho hg hw hk2
     refine hK.out _ _ (HEd.out.keep HK2.out (fun f=>f)) (fun hHeld2=>?_)
     clear hK K
     refine pput ?_
     refine rd1 5 (fun K hK=>?_)
     go_simp
     have HB3:=hid (Blk.made u2 104 #[.int .i64 y.k,.int .i64 y.t,.int .i64 y.w,.int .i64 y.c,.int .i64 y.e,.int .i64 y.n,.int .i64 0,.int .i64 0,.slice none 0 0,.int .i64 0,.int .i64 0,.int .i64 0,.int .i64 0,.int .i64 0,.int .i64 0,.int .i64 0,.int .i64 0,.int .i64 0,.int .i64 0,.int .i64 0,.int .i64 0,.int .i64 0,.int .i64 0,.int .i64 0,.int .i64 0,.slice none 0 0,.slice none 0 0,.slice none 0 0])
     have HK3:=hid (HK2.out.alloc (.cells #[.int .i64 y.k,.int .i64 y.t,.int .i64 y.w,.int .i64 y.c,.int .i64 y.e,.int .i64 y.n,.int .i64 0,.int .i64 0,.slice none 0 0,.int .i64 0,.int .i64 0,.int .i64 0,.int .i64 0,.int .i64 0,.int .i64 0,.int .i64 0,.int .i64 0,.int .i64 0,.int .i64 0,.int .i64 0,.int .i64 0,.int .i64 0,.int .i64 0,.int .i64 0,.int .i64 0,.slice none 0 0,.slice none 0 0,.slice none 0 0] 104))
     have HO3:=hid (HO2.out.keepB ((Keep.refl (fun _=>False) u2).alloc (.cells #[.int .i64 y.k,.int .i64 y.t,.int .i64 y.w,.int .i64 y.c,.int .i64 y.e,.int .i64 y.n,.int .i64 0,.int .i64 0,.slice none 0 0,.int .i64 0,.int .i64 0,.int .i64 0,.int .i64 0,.int .i64 0,.int .i64 0,.int .i64 0,.int .i64 0,.int .i64 0,.int .i64 0,.int .i64 0,.int .i64 0,.int .i64 0,.int .i64 0,.int .i64 0,.int .i64 0,.slice none 0 0,.slice none 0 0,.slice none 0 0] 104)) (fun _ _ f=>f))
     obtain ⟨g3,hg3⟩:∃ g,g=u2.heap.size:=⟨_,rfl⟩
     rw [←hg3] at HB3 ⊢
     clear hg3
     generalize (u2.alloc (.cells #[.int .i64 y.k,.int .i64 y.t,.int .i64 y.w,.int .i64 y.c,.int .i64 y.e,.int .i64 y.n,.int .i64 0,.int .i64 0,.slice none 0 0,.int .i64 0,.int .i64 0,.int .i64 0,.int .i64 0,.int .i64 0,.int .i64 0,.int .i64 0,.int .i64 0,.int .i64 0,.int .i64 0,.int .i64 0,.int .i64 0,.int .i64 0,.int .i64 0,.int .i64 0,.int .i64 0,.slice none 0 0,.slice none 0 0,.slice none 0 0] 104))=u3 at *
     refine hK.out _ _ (HEd.out.keep HK3.out (fun f=>f)) (fun hHeld3=>?_)
     clear hK K
     refine pput ?_
     refine rd1 6 (fun K hK=>?_)
     refine EEv.step2 rfl (.tmp 9) (.tmp 11) rfl (.slice A32 q.ev.length c32) (some ⟨g3,0,none⟩) 1 1 rfl rfl wd.heap.size q.ev.length (q.ev.flatMap Ev.cells) y.cells (q.ev.length+1) ((q.ev++[y]).flatMap Ev.cells) rfl (by rw [List.flatMap_append,List.flatMap_singleton]) HO3.out rfl (fun _=>⟨_,rfl,src_blk (HB3.out)⟩) (ev_one _) (by omega) (by unfold maxLen;omega) HK3.out.size (by
      intro A4 c4 u4 ho hg hw
      have HO4:=hid ho
      have HK4:=hid (HK3.out.app HO3.out hg (fun g h1 h2=>by omega))
      have c19:u4.cell? ⟨g0,19,none⟩=some (.slice q.VA q.ev.length q.vc):=(HMd.out.keep HK4.out (fun f=>f)).at_ 19
      have f19:=(HMd.out.keep HK4.out (fun f=>f)).free 19
      clear ho hg hw
      refine hK.out _ _ (HEd.out.keep HK4.out (fun f=>f)) (fun hHeld4=>?_)
      clear hK K
      refine pput ?_
      refine tk 7 ?_
      refine rd1 8 (fun K hK=>?_)
      go_simp
      refine hK.out _ _ ((HEd.out.keep HK4.out (fun f=>f)).far (p:=⟨g0,19,none⟩) (by show ¬g0+1=g0;omega) _) (fun hHeld9=>?_)
      clear hK K
      refine pput ?_
      refine wpAnyH_done (by kernel_rfl) ?_ _
      exact REST A32 c32 A4 c4 g3 _ ⟨_,HO4.out,HK4.out,rfl⟩))
   ·go_simp
    have HB5:=hid (Blk.made wd 104 #[.int .i64 y.k,.int .i64 y.t,.int .i64 y.w,.int .i64 y.c,.int .i64 y.e,.int .i64 y.n,.int .i64 0,.int .i64 0,.slice none 0 0,.int .i64 0,.int .i64 0,.int .i64 0,.int .i64 0,.int .i64 0,.int .i64 0,.int .i64 0,.int .i64 0,.int .i64 0,.int .i64 0,.int .i64 0,.int .i64 0,.int .i64 0,.int .i64 0,.int .i64 0,.int .i64 0,.slice none 0 0,.slice none 0 0,.slice none 0 0])
    have HK5:=hid ((Keep.refl (fun _=>False) wd).alloc (.cells #[.int .i64 y.k,.int .i64 y.t,.int .i64 y.w,.int .i64 y.c,.int .i64 y.e,.int .i64 y.n,.int .i64 0,.int .i64 0,.slice none 0 0,.int .i64 0,.int .i64 0,.int .i64 0,.int .i64 0,.int .i64 0,.int .i64 0,.int .i64 0,.int .i64 0,.int .i64 0,.int .i64 0,.int .i64 0,.int .i64 0,.int .i64 0,.int .i64 0,.int .i64 0,.int .i64 0,.slice none 0 0,.slice none 0 0,.slice none 0 0] 104))
    obtain ⟨g5,hg5⟩:∃ g,g=wd.heap.size:=⟨_,rfl⟩
    rw [←hg5] at HB5 ⊢
    clear hg5
    generalize (wd.alloc (.cells #[.int .i64 y.k,.int .i64 y.t,.int .i64 y.w,.int .i64 y.c,.int .i64 y.e,.int .i64 y.n,.int .i64 0,.int .i64 0,.slice none 0 0,.int .i64 0,.int .i64 0,.int .i64 0,.int .i64 0,.int .i64 0,.int .i64 0,.int .i64 0,.int .i64 0,.int .i64 0,.int .i64 0,.int .i64 0,.int .i64 0,.int .i64 0,.int .i64 0,.int .i64 0,.int .i64 0,.slice none 0 0,.slice none 0 0,.slice none 0 0] 104))=u5 at *
    refine hK.out _ _ (HEd.out.keep HK5.out (fun f=>f)) (fun hHeld5=>?_)
    clear hK K
    refine pput ?_
    refine rd1 3 (fun K hK=>?_)
    refine EEv.step2 rfl (.tmp 6) (.tmp 8) rfl (.slice none 0 0) q.VA q.ev.length q.vc rfl rfl wd.heap.size 0 [] (q.ev.flatMap Ev.cells) q.ev.length (q.ev.flatMap Ev.cells) (Nat.zero_add _) rfl (Own.nil _ _ _ _) (flat_len _ 28 (fun _=>rfl) _) (HVd.out.src HK5.out) (evs_one _) (by omega) (by unfold maxLen;omega) HK5.out.size (by
     intro A36 c36 u6 ho hg hw
     have HO6:=hid ho
     have hk6:=(Keep.refl (fun _=>False) u5).app (Own.nil u5 u5.heap.size 104 28) hg (fun g h1 h2=>by omega)
     have HK6:=hid (HK5.out.then hk6)
     have HB6:=hid (HB5.out.keep hk6 (fun f=>f))
     clear ho hg hw hk6
     refine hK.out _ _ (HEd.out.keep HK6.out (fun f=>f)) (fun hHeld6=>?_)
     clear hK K
     refine pput ?_
     refine rd1 6 (fun K hK=>?_)
     refine EEv.step2 rfl (.tmp 9) (.tmp 11) rfl (.slice A36 q.ev.length c36) (some ⟨g5,0,none⟩) 1 1 rfl rfl wd.heap.size q.ev.length (q.ev.flatMap Ev.cells) y.cells (q.ev.length+1) ((q.ev++[y]).flatMap Ev.cells) rfl (by rw [List.flatMap_append,List.flatMap_singleton]) HO6.out rfl (fun _=>⟨_,rfl,src_blk (HB6.out)⟩) (ev_one _) (by omega) (by unfold maxLen;omega) HK6.out.size (by
      intro A4 c4 u7 ho hg hw
      have HO7:=hid ho
      have HK7:=hid (HK6.out.app HO6.out hg (fun g h1 h2=>by omega))
      have c19:u7.cell? ⟨g0,19,none⟩=some (.slice q.VA q.ev.length q.vc):=(HMd.out.keep HK7.out (fun f=>f)).at_ 19
      have f19:=(HMd.out.keep HK7.out (fun f=>f)).free 19
      clear ho hg hw
      refine hK.out _ _ (HEd.out.keep HK7.out (fun f=>f)) (fun hHeld7=>?_)
      clear hK K
      refine pput ?_
      refine tk 7 ?_
      refine rd1 8 (fun K hK=>?_)
      go_simp
      refine hK.out _ _ ((HEd.out.keep HK7.out (fun f=>f)).far (p:=⟨g0,19,none⟩) (by show ¬g0+1=g0;omega) _) (fun hHeld9=>?_)
      clear hK K
      refine pput ?_
      refine wpAnyH_done (by kernel_rfl) ?_ _
      exact REST A36 c36 A4 c4 g5 _ ⟨_,HO7.out,HK7.out,rfl⟩))
  ·go_simp
   have HB8:=hid (Blk.made wd 104 #[.int .i64 y.k,.int .i64 y.t,.int .i64 y.w,.int .i64 y.c,.int .i64 y.e,.int .i64 y.n,.int .i64 0,.int .i64 0,.slice none 0 0,.int .i64 0,.int .i64 0,.int .i64 0,.int .i64 0,.int .i64 0,.int .i64 0,.int .i64 0,.int .i64 0,.int .i64 0,.int .i64 0,.int .i64 0,.int .i64 0,.int .i64 0,.int .i64 0,.int .i64 0,.int .i64 0,.slice none 0 0,.slice none 0 0,.slice none 0 0])
   have HK8:=hid ((Keep.refl (fun _=>False) wd).alloc (.cells #[.int .i64 y.k,.int .i64 y.t,.int .i64 y.w,.int .i64 y.c,.int .i64 y.e,.int .i64 y.n,.int .i64 0,.int .i64 0,.slice none 0 0,.int .i64 0,.int .i64 0,.int .i64 0,.int .i64 0,.int .i64 0,.int .i64 0,.int .i64 0,.int .i64 0,.int .i64 0,.int .i64 0,.int .i64 0,.int .i64 0,.int .i64 0,.int .i64 0,.int .i64 0,.int .i64 0,.slice none 0 0,.slice none 0 0,.slice none 0 0] 104))
   obtain ⟨g8,hg8⟩:∃ g,g=wd.heap.size:=⟨_,rfl⟩
   rw [←hg8] at HB8 ⊢
   clear hg8
   generalize (wd.alloc (.cells #[.int .i64 y.k,.int .i64 y.t,.int .i64 y.w,.int .i64 y.c,.int .i64 y.e,.int .i64 y.n,.int .i64 0,.int .i64 0,.slice none 0 0,.int .i64 0,.int .i64 0,.int .i64 0,.int .i64 0,.int .i64 0,.int .i64 0,.int .i64 0,.int .i64 0,.int .i64 0,.int .i64 0,.int .i64 0,.int .i64 0,.int .i64 0,.int .i64 0,.int .i64 0,.int .i64 0,.slice none 0 0,.slice none 0 0,.slice none 0 0] 104))=u8 at *
   refine hK.out _ _ (HEd.out.keep HK8.out (fun f=>f)) (fun hHeld8=>?_)
   clear hK K
   refine pput ?_
   refine rd1 2 (fun K hK=>?_)
   have e9:u8.cell? ⟨g0,19,none⟩=some (.slice q.VA q.ev.length q.vc):=(HMd.out.keep HK8.out (fun f=>f)).at_ 19
   go_simp
   clear e9
   refine hK.out _ _ (HEd.out.keep HK8.out (fun f=>f)) (fun hHeld9=>?_)
   clear hK K
   refine pput ?_
   refine rd1 3 (fun K hK=>?_)
   refine EEv.step2 rfl (.tmp 6) (.tmp 8) rfl (.slice none 0 0) q.VA q.ev.length q.vc rfl rfl wd.heap.size 0 [] (q.ev.flatMap Ev.cells) q.ev.length (q.ev.flatMap Ev.cells) (Nat.zero_add _) rfl (Own.nil _ _ _ _) (flat_len _ 28 (fun _=>rfl) _) (HVd.out.src HK8.out) (evs_one _) (by omega) (by unfold maxLen;omega) HK8.out.size (by
    intro A310 c310 u10 ho hg hw
    have HO10:=hid ho
    have hk10:=(Keep.refl (fun _=>False) u8).app (Own.nil u8 u8.heap.size 104 28) hg (fun g h1 h2=>by omega)
    have HK10:=hid (HK8.out.then hk10)
    have HB10:=hid (HB8.out.keep hk10 (fun f=>f))
    clear ho hg hw hk10
    refine hK.out _ _ (HEd.out.keep HK10.out (fun f=>f)) (fun hHeld10=>?_)
    clear hK K
    refine pput ?_
    refine rd1 6 (fun K hK=>?_)
    refine EEv.step2 rfl (.tmp 9) (.tmp 11) rfl (.slice A310 q.ev.length c310) (some ⟨g8,0,none⟩) 1 1 rfl rfl wd.heap.size q.ev.length (q.ev.flatMap Ev.cells) y.cells (q.ev.length+1) ((q.ev++[y]).flatMap Ev.cells) rfl (by rw [List.flatMap_append,List.flatMap_singleton]) HO10.out rfl (fun _=>⟨_,rfl,src_blk (HB10.out)⟩) (ev_one _) (by omega) (by unfold maxLen;omega) HK10.out.size (by
     intro A4 c4 u11 ho hg hw
     have HO11:=hid ho
     have HK11:=hid (HK10.out.app HO10.out hg (fun g h1 h2=>by omega))
     have c19:u11.cell? ⟨g0,19,none⟩=some (.slice q.VA q.ev.length q.vc):=(HMd.out.keep HK11.out (fun f=>f)).at_ 19
     have f19:=(HMd.out.keep HK11.out (fun f=>f)).free 19
     clear ho hg hw
     refine hK.out _ _ (HEd.out.keep HK11.out (fun f=>f)) (fun hHeld11=>?_)
     clear hK K
     refine pput ?_
     refine tk 7 ?_
     refine rd1 8 (fun K hK=>?_)
     go_simp
     refine hK.out _ _ ((HEd.out.keep HK11.out (fun f=>f)).far (p:=⟨g0,19,none⟩) (by show ¬g0+1=g0;omega) _) (fun hHeld9=>?_)
     clear hK K
     refine pput ?_
     refine wpAnyH_done (by kernel_rfl) ?_ _
     exact REST A310 c310 A4 c4 g8 _ ⟨_,HO11.out,HK11.out,rfl⟩))
 case rest =>
  intro A3 c3 A4 c4 g4 W hF
  obtain ⟨U,ho,hk,hW⟩:=hF
  obtain ⟨q2,hq2⟩:∃ q2:QS,q2={ q with VA:=A4,vc:=c4,ev:=q.ev++[y] }:=⟨_,rfl⟩
  have hM2:Blk W g0 35 q2.cells.toArray:=by
   have h1:=(HMd.out.keep hk (fun f=>f)).put 19 (.slice A4 (q.ev.length+1) c4)
   rw [←hW] at h1
   rw [hq2]
   have h2:({ q with VA:=A4,vc:=c4,ev:=q.ev++[y] }:QS).cells.toArray=q.cells.toArray.setIfInBounds 19 (.slice A4 (q.ev.length+1) c4):=by simp [QS.cells]
   rw [h2];exact h1
  have hZ2:Blk W (g0+1+1) 35 zero20.toArray:=by
   rw [hW];exact (HZd.out.keep hk (fun f=>f)).far (p:=⟨g0,19,none⟩) (by show ¬g0+1+1=g0;omega) _
  have hkp:Keep (fun i=>i=g0) wd W:=by
   rw [hW];exact (hk.wide (fun _ _ f=>f.elim)).put 19 _
  have hkr:Keep (fun i=>i=g0+1+1) W (W.setRow (g0+1+1) q2.cells.toArray):=Keep.row _ _ _
  have hkf:Keep (fun i=>i=g0∨i=g0+1+1) U (W.setRow (g0+1+1) q2.cells.toArray):=by
   refine Keep.trans ?_ hkr (fun i _ e=>.inr e)
   rw [hW]
   exact ((Keep.refl (fun i=>i=g0) U).put 19 _).wide (fun i _ e=>.inl e)
  have hks:Same w (W.setRow (g0+1+1) q2.cells.toArray):=by
   have hg:=HG0.out
   exact (HKd.out.trans hkp (fun i hi e=>by have e2:i=g0:=e;omega)).trans hkr (fun i hi e=>by have e2:i=g0+1+1:=e;omega)
  have hPost:QPost w Av q.c (q.pt.evt y) (.returned (.agg q2.cells.toArray)) (W.setRow (g0+1+1) q2.cells.toArray):=by
   refine ⟨q2,rfl,?_,by rw [hq2];rfl,by rw [hq2],hks⟩
   have h0:=HR.out.same hks
   have hv:Sl (W.setRow (g0+1+1) q2.cells.toArray) Av 28 A4 (q.ev.length+1) ((q.ev++[y]).flatMap Ev.cells):=by
    refine (ho.keepB hkf (fun g hg hs=>?_)).sl (fun g hg ha=>?_)
    ·have h1:=ho.block g hg
     have h2:=HSd.out
     rcases hs with hs | hs <;> omega
    ·have h1:=HAV.out g ha
     have h2:=HSd.out
     have h3:=HG0.out
     omega
   rw [hq2] at h0 hv ⊢
   exact ⟨h0.L,h0.lin,h0.who,h0.ep,h0.out,h0.body,by simpa using hv⟩
  have HM2:=hid hM2
  have HZ2:=hid hZ2
  have HPO:=hid hPost
  clear ho hk hW hq2 hM2 hZ2 hkp hkr hkf hks hPost
  go_wp2_with (first
   | (refine wpList_load_row rfl _ (.tmp 2) rfl g0 rfl _ q2.cells.toArray (0,0) _ HM2.out Tryz.underlying35 rfl (by kernel_rfl) ?_)
   | (refine wpList_store_row rfl _ (.tmp 4) (.tmp 14) rfl (g0+1+1) q2.cells.toArray rfl rfl _ _ HZ2.out (by kernel_rfl) rfl (one_toArray (q_one q2)) ?_))
  exact bodyPost_ret (results_cell_row rfl _ _ _ _ _ _ _ rfl (HZ2.out.row _) Tryz.underlying35 rfl (by kernel_rfl)) rfl HPO.out
theorem EQl:Elem Tryz.prog 30 53 11 128 (.agg #[.int .i64 0,.int .i64 0,.int .i64 0,.int .i64 0,.int .i64 0,.string ⟨#[]⟩,.int .i64 0,.slice none 0 0,.int .i64 0,.slice none 0 0,.int .i64 0]):=⟨Tryz.underlying30,by kernel_rfl,rfl,by decide⟩
theorem qa_one (x:QA):∀ u∈x.cells,u.oneCell'=true:=by
 intro u hu
 simp only [QA.cells,List.mem_cons,List.not_mem_nil,or_false] at hu
 rcases hu with rfl | rfl | rfl | rfl | rfl | rfl | rfl | rfl | rfl | rfl | rfl <;> rfl
theorem qas_one (l:List QA):∀ u∈l.flatMap QA.cells,u.oneCell'=true:=by
 intro u hu
 obtain ⟨y,_,hy⟩:=List.mem_flatMap.1 hu
 exact qa_one y u hy
theorem Keep.cells (b:Nat):∀ (vs:List Value) (o:Nat) (w:World),Keep (fun i=>i=b) w (w.setCells b o vs)
 | [],_,w=>Keep.refl _ _
 | v :: r,o,w=>by
   rw [World.setCells]
   exact ((Keep.refl (fun i=>i=b) w).put o v).trans (Keep.cells b r (o+1) _) (fun _ _ h=>h)
theorem row_set {w:World} {g:Nat} {R:List QA} (h:Row w g 0 (R.flatMap QA.cells)) {i:Nat} (hi:i<R.length) (x:QA) (ht:w.there g (i * 11) 11):Row (w.setCells g (i * 11) x.cells) g 0 ((R.set i x).flatMap QA.cells):=by
 intro j u hu
 have e:j / 11 * 11+j % 11=j:=by omega
 have hj:j % 11<11:=Nat.mod_lt _ (by omega)
 have hu2:=flat_get QA.cells 11 (fun _=>rfl) (R.set i x) (j / 11) (j % 11) hj
 rw [e,hu] at hu2
 rw [Nat.zero_add]
 by_cases hji:i=j / 11
 ·rw [←hji,List.getElem?_set_self hi] at hu2
  have h3:x.cells[j % 11]? = some u:=hu2.symm
  have:=World.rangeAt_setCells_same w g (i * 11) x.cells ht (j % 11) u h3
  rw [show i * 11+j % 11=j from by omega] at this
  exact this
 ·rw [List.getElem?_set_ne hji] at hu2
  have h3:(R.flatMap QA.cells)[j]? = some u:=by
   have:=flat_get QA.cells 11 (fun _=>rfl) R (j / 11) (j % 11) hj
   rw [e] at this
   rw [this];exact hu2.symm
  have h4:=h j u h3
  rw [Nat.zero_add] at h4
  rw [World.cell?_setCells_out g x.cells (i * 11) w ⟨g,j,none⟩ (fun _ _=>by
   show j<i * 11∨i * 11+11≤j
   omega)]
  exact h4
set_option maxHeartbeats 8000000 in
set_option maxRecDepth 100000 in
theorem set_any (w:World) (Av:Nat→Prop) (hAv:∀ i,Av i→i<w.heap.size) (q:QS) (h:RX w Av q) (hn:q.R.length≤1000) (i:Nat) (hi:i<q.R.length) (x:QA) (hx:QAt w Av x):Calls Tryz.prog 108 #[.agg q.cells.toArray,.int .i64 i,.agg x.cells.toArray] w (QPost w Av q.c (q.pt.put i x.pt)):=by
 have hm:=((Blk.made w 35 q.cells.toArray).alloc (.cells x.cells.toArray 53)).alloc (.cells zero20.toArray 35)
 have he:=(Blk.made (w.alloc (.cells q.cells.toArray 35)) 53 x.cells.toArray).alloc (.cells zero20.toArray 35)
 have hz:=Blk.made ((w.alloc (.cells q.cells.toArray 35)).alloc (.cells x.cells.toArray 53)) 35 zero20.toArray
 have hw:Same w (((w.alloc (.cells q.cells.toArray 35)).alloc (.cells x.cells.toArray 53)).alloc (.cells zero20.toArray 35)):=(((Keep.refl _ _).alloc _).alloc _).alloc _
 rw [World.size_alloc] at he
 rw [World.size_alloc,World.size_alloc] at hz
 generalize hw1:(((w.alloc (.cells q.cells.toArray 35)).alloc (.cells x.cells.toArray 53)).alloc (.cells zero20.toArray 35))=w1 at *
 have hsz:w1.heap.size=w.heap.size+3:=by rw [←hw1];simp only [World.size_alloc]
 have HM:=hid hm
 have HE:=hid he
 have HZ:=hid hz
 have HW:=hid hw
 have HR:=hid h
 have HAV:=hid hAv
 have HSZ:=hid hsz
 have HQX:=hid hx
 have HLS:=hid (h.L.same hw)
 have z15:w1.cell? ⟨w.heap.size,15,none⟩=some (.slice q.LA q.R.length q.lc):=hm.at_ 15
 clear hm he hz hw h hAv hsz hx
 obtain ⟨g0,hg0⟩:∃ g,g=w.heap.size:=⟨_,rfl⟩
 go_enter Tryz.func108,Tryz.ntmps108
 go_upto_region 2 with fail
 try simp only [zero20] at hw1
 try rw [hw1]
 rw [←hg0] at HM HE HZ z15 HSZ ⊢
 have HG0:=hid hg0
 clear hg0 hw1
 go_upto_region 3 with (first
  | (at_builtin
     refine EQl.law2 (.tmp 8) (.tmp 10) (.slice none 0 0) q.LA q.R.length q.lc rfl rfl rfl rfl w1.heap.size 0 [] (q.R.flatMap QA.cells) q.R.length (q.R.flatMap QA.cells) (Nat.zero_add _) rfl (Own.nil _ _ _ _) (flat_len _ 11 (fun _=>rfl) _) (HLS.out.src (Keep.refl (fun _=>False) _)) (qas_one _) (by omega) (by unfold maxLen;omega) (Nat.le_refl _) ?_
     intro A3 c3 w3 ho hg hw
     have HO3:=hid ho
     have HK3:=hid ((Keep.refl (fun _=>False) w1).app (Own.nil w1 w1.heap.size 53 11) hg (fun g h1 h2=>by omega))
     clear ho hg hw))
 have hM3:=HM.out.keep HK3.out (fun f=>f)
 have hE3:=HE.out.keep HK3.out (fun f=>f)
 have hZ3:=HZ.out.keep HK3.out (fun f=>f)
 have hn0:0<q.R.length:=by omega
 obtain ⟨g,cur,hA3,_⟩:=HO3.out.open_ hn0
 subst hA3
 have hgb:w1.heap.size≤g:=HO3.out.block g rfl
 have hgl:g<w3.heap.size:=HO3.out.lt g rfl
 have hth:w3.there g (i * 11) 11:=fun j hj=>by
  have hlen:(q.R.flatMap QA.cells).length=q.R.length * 11:=flat_len _ 11 (fun _=>rfl) _
  obtain ⟨u,hu⟩:=get_some (l:=q.R.flatMap QA.cells) (k:=i * 11+j) (by omega)
  exact ⟨by rw [HO3.out.cell hu];rfl,HO3.out.free hn0 _⟩
 have hrow:Row w3 g 0 (q.R.flatMap QA.cells):=fun j u hu=>by rw [Nat.zero_add];exact HO3.out.cell hu
 have hr4:=row_set hrow hi x hth
 have HTH:=hid hth
 have HE3:=hid hE3
 have hk4:Keep (fun j=>j=g) w3 (w3.setCells g (i * 11) x.cells):=Keep.cells g _ _ _
 have hM4:=hM3.keep hk4 (fun e=>by have:=HSZ.out;have e2:g0=g:=e;omega)
 have hZ4:=hZ3.keep hk4 (fun e=>by have:=HSZ.out;have e2:g0+1+1=g:=e;omega)
 have HM4:=hid hM4
 have HZ4:=hid hZ4
 have HR4:=hid hr4
 have HK4:=hid hk4
 have hii:(i:Int)<(q.R.length:Int):=by omega
 have hi0:(0:Int)≤(i:Int):=Int.natCast_nonneg _
 clear hM3 hE3 hZ3 hth hrow hr4 hk4 hM4 hZ4
 go_upto_region 4 with (first
  | (refine wpList_load_row rfl _ (.tmp 5) rfl (g0+1) rfl _ x.cells.toArray (0,0) _ HE3.out Tryz.underlying53 rfl (by kernel_rfl) ?_)
  | (refine wpList_store_mid rfl _ (.tmp 15) (.tmp 14) rfl g (i * 11) x.cells.toArray rfl rfl HTH.out (by kernel_rfl) (one_toArray (qa_one x)) ?_))
 obtain ⟨w4,hw4⟩:∃ x',x'=w3.setCells g (i * 11) x.cells:=⟨_,rfl⟩
 rw [←hw4] at HM4 HZ4 HR4 HK4 ⊢
 have c15:w4.cell? ⟨g0,15,none⟩=some (.slice q.LA q.R.length q.lc):=HM4.out.at_ 15
 have f15:=HM4.out.free 15
 clear hw4 HTH HE3 HM HE HZ HLS
 go_upto_region 5 with fail
 obtain ⟨q2,hq2⟩:∃ q2:QS,q2={ q with LA:=some ⟨g,0,none⟩,lc:=c3,R:=q.R.set i x }:=⟨_,rfl⟩
 have hM5:Blk (w4.setCell ⟨g0,15,none⟩ (.slice (some ⟨g,0,none⟩) q.R.length c3)) g0 35 q2.cells.toArray:=by
  have h1:=HM4.out.put 15 (.slice (some ⟨g,0,none⟩) q.R.length c3)
  have h2:q2.cells.toArray=q.cells.toArray.setIfInBounds 15 (.slice (some ⟨g,0,none⟩) q.R.length c3):=by rw [hq2];simp [QS.cells]
  rw [h2];exact h1
 have hZ5:Blk (w4.setCell ⟨g0,15,none⟩ (.slice (some ⟨g,0,none⟩) q.R.length c3)) (g0+1+1) 35 zero20.toArray:=HZ4.out.far (p:=⟨g0,15,none⟩) (by show ¬g0+1+1=g0;omega) _
 have hkp:Keep (fun i=>i=g0) w4 (w4.setCell ⟨g0,15,none⟩ (.slice (some ⟨g,0,none⟩) q.R.length c3)):=(Keep.refl _ _).put 15 _
 generalize (w4.setCell ⟨g0,15,none⟩ (.slice (some ⟨g,0,none⟩) q.R.length c3))=w5 at *
 have hkr:Keep (fun i=>i=g0+1+1) w5 (w5.setRow (g0+1+1) q2.cells.toArray):=Keep.row _ _ _
 have hkf:Keep (fun i=>i=g0∨i=g0+1+1) w4 (w5.setRow (g0+1+1) q2.cells.toArray):=(hkp.wide (fun i _ e=>.inl e)).trans hkr (fun i _ e=>.inr e)
 have hg4:g<w4.heap.size:=Nat.lt_of_lt_of_le hgl HK4.out.size
 have hks:Same w (w5.setRow (g0+1+1) q2.cells.toArray):=by
  have h1:=HG0.out
  have h2:=HSZ.out
  have h3:=(HW.out.then HK3.out).trans HK4.out (fun j hj e=>by have e2:j=g:=e;omega)
  exact h3.trans hkf (fun j hj e=>by rcases e with e | e <;> omega)
 have hPost:QPost w Av q.c (q.pt.put i x.pt) (.returned (.agg q2.cells.toArray)) (w5.setRow (g0+1+1) q2.cells.toArray):=by
  generalize (w5.setRow (g0+1+1) q2.cells.toArray)=wf at hks hkf ⊢
  refine ⟨q2,rfl,?_,by rw [hq2];simp [QS.pt,XS.put,List.map_set],by rw [hq2],hks⟩
  have h0:=HR.out.same hks
  have hL:Sl wf Av 11 (some ⟨g,0,none⟩) (q.R.set i x).length ((q.R.set i x).flatMap QA.cells):=by
   refine ⟨flat_len _ 11 (fun _=>rfl) _,fun _=>⟨g,0,rfl,Nat.lt_of_lt_of_le hg4 hkf.size,fun ha=>?_,HR4.out.keep hkf hg4 (fun e=>?_)⟩⟩
   ·have h1:=HAV.out g ha
    have h2:=HSZ.out
    have h3:=HG0.out
    omega
   ·have h2:=HSZ.out
    rcases e with e | e <;> omega
  rw [hq2]
  refine ⟨hL,fun y hy=>?_,h0.who,h0.ep,h0.out,h0.body,h0.ev⟩
  rcases List.mem_or_eq_of_mem_set hy with hy | rfl
  ·exact h0.lin y hy
  ·exact HQX.out.same hks
 have HM5:=hid hM5
 have HZ5:=hid hZ5
 have HPO:=hid hPost
 clear hM5 hZ5 hkp hkr hkf hks hPost hq2 hg4 c15 f15 HM4 HZ4
 go_wp2_with (first
  | (refine wpList_load_row rfl _ (.tmp 3) rfl g0 rfl _ q2.cells.toArray (0,0) _ HM5.out Tryz.underlying35 rfl (by kernel_rfl) ?_)
  | (refine wpList_store_row rfl _ (.tmp 6) (.tmp 18) rfl (g0+1+1) q2.cells.toArray rfl rfl _ _ HZ5.out (by kernel_rfl) rfl (one_toArray (q_one q2)) ?_))
 exact bodyPost_ret (results_cell_row rfl _ _ _ _ _ _ _ rfl (HZ5.out.row _) Tryz.underlying35 rfl (by kernel_rfl)) rfl HPO.out
end Go.Proofs.YtbjddfiledoaoaaGreat

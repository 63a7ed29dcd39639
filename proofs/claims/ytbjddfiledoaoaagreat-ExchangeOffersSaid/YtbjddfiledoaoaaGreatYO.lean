import Derived.Test.YtbjddfiledoaoaaGreatYE
import Derived.Test.YtbjddfiledoaoaaGreatGen
import Derived.Test.YtbjddfiledoaoaaGreatConfF
namespace Go.Proofs.YtbjddfiledoaoaaGreat
open Go.RowKit
def smB (l:List SA):Bool:=l.all (fun s=>decide (s.nd.length≤210)) && decide (l.length≤20)
set_option maxHeartbeats 8000000 in
set_option maxRecDepth 100000 in
theorem smallQ (w:World) (Av:Nat→Prop) (B:Option Addr) (cb:Nat) (l:List SA) (hs:SAs w Av B l) (hl:l.length≤maxLen):Calls Tryz.prog 56 #[.slice B l.length cb] w (fun e w'=>e=.returned (.bool (smB l))∧Same w w'):=by
 have HS:=hid (fun W (hk:Same w W)=>hs.same hk)
 unfold maxLen at hl
 clear hs
 go_enter Tryz.func56,Tryz.ntmps56
 go_wp2_with fail
 go_loopw [7] (fun i wr=>∃ j:Nat,j≤l.length∧i=.int .i64 j∧Hid ((∀ k,k<j→∀ s,l[k]? = some s→s.nd.length≤210)∧Same w wr)) (fun i _=>l.length - (RowKit.intOf i).toNat)
 case atStart=>exact ⟨0,Nat.zero_le _,rfl,hid ⟨fun k hk=>by omega,Keep.refl _ _⟩⟩
 case round =>
  obtain ⟨j,hj,rfl,HI⟩:=hrel
  have hj0:(0:Int)≤(j:Int):=Int.natCast_nonneg _
  by_cases hjn:j<l.length
  ·have hj1:(j:Int)<(l.length:Int):=by omega
   obtain ⟨a,ha⟩:=get_some hjn
   obtain ⟨b1,o1,hB1,hb1,y0,y1⟩:=(HS.out wr HI.out.2).at_ ha
   subst hB1
   have HA:=hid ha
   by_cases h2:(210:Int)<(a.nd.length:Int)
   ·have HF:=hid (show smB l=false from by
     unfold smB
     rw [Bool.and_eq_false_iff]
     left
     rw [List.all_eq_false]
     exact ⟨a,List.mem_of_getElem? ha,by simp;omega⟩)
    clear ha
    go_wp2_with fail
    go_ret
    exact ⟨by rw [HF.out];rfl,HI.out.2.alloc _⟩
   ·have h2:(a.nd.length:Int)≤210:=by omega
    clear ha
    go_wp2_with fail
    have HN:=hid (show (∀ k,k<j+1→∀ s,l[k]? = some s→s.nd.length≤210)∧Same w (wr.alloc (.cells #[.int .i64 a.k,.slice a.A a.nd.length a.c] 129)) from ⟨fun k hk s hs=>by
     by_cases e:k=j
     ·subst e
      rw [HA.out] at hs
      cases hs;omega
     ·exact HI.out.1 k (by omega) s hs,HI.out.2.alloc _⟩)
    go_roundw
    case rel=>first | exact ⟨j+1,by omega,by go_num,HN⟩ | ((repeat apply Exists.intro);refine And.intro ?_ rfl;exact ⟨j+1,by omega,by go_num,HN⟩)
    case measure=>simp [RowKit.intOf];omega
  ·obtain rfl:j=l.length:=by omega
   have HF:=hid (show smB l=decide ((l.length:Int)≤20) from by
    unfold smB
    rw [show l.all (fun s=>decide (s.nd.length≤210))=true from by
     rw [List.all_eq_true]
     intro s hs
     obtain ⟨k,hk⟩:=List.getElem?_of_mem hs
     have:=HI.out.1 k (List.getElem?_eq_some_iff.1 hk).1 s hk
     simpa using this,Bool.true_and]
    by_cases h:l.length≤20
    ·simp [h];omega
    ·simp [h];omega)
   go_wp2_with fail
   go_ret
   exact ⟨by rw [HF.out];rfl,HI.out.2⟩
set_option maxHeartbeats 8000000 in
set_option maxRecDepth 100000 in
theorem numbersQ (w:World) (Av Bv:Nat→Prop) (A B:Option Addr) (ca cb:Nat) (l:List Int) (ha:Sl w Av 1 A l.length (icells l)) (hb:Sl w Bv 1 B l.length (icells l)) (hl:l.length≤1000000):Calls Tryz.prog 20 #[.slice A l.length ca,.slice B l.length cb] w (fun e w'=>e=.returned (.bool true)∧Same w w'):=by
 have HA:=hid (fun W (hk:Same w W)=>ha.same hk)
 have HB:=hid (fun W (hk:Same w W)=>hb.same hk)
 clear ha hb
 go_enter Tryz.func20,Tryz.ntmps20
 go_wp2_with fail
 go_loopw [13] (fun i wr=>∃ j:Nat,j≤l.length∧i=.int .i64 j∧Hid (Same w wr)) (fun i _=>l.length - (RowKit.intOf i).toNat)
 case atStart=>exact ⟨0,Nat.zero_le _,rfl,hid (Keep.refl _ _)⟩
 case round =>
  obtain ⟨j,hj,rfl,HI⟩:=hrel
  have hj0:(0:Int)≤(j:Int):=Int.natCast_nonneg _
  by_cases hjn:j<l.length
  ·have hj1:(j:Int)<(l.length:Int):=by omega
   obtain ⟨x,hx⟩:=get_some hjn
   obtain ⟨b1,o1,hB1,_,y1⟩:=int_at (HA.out wr HI.out) hx
   obtain ⟨b2,o2,hB2,_,y2⟩:=int_at (HB.out wr HI.out) hx
   subst hB1
   subst hB2
   clear hx
   go_upto_region 6 with fail
   refine wp_region_held_drew (S:=fun W=>W.cell? ⟨b1,o1+j,none⟩=some (.int .i64 x)∧W.cell? ⟨b2,o2+j,none⟩=some (.int .i64 x)) (by kernel_rfl) ⟨y1,y2⟩ (fun hHeld=>?_)
   refine tk 0 ?_
   refine tk 1 ?_
   refine tk 2 ?_
   refine tk 3 ?_
   refine tk 4 ?_
   refine tk 5 ?_
   refine tk 6 ?_
   refine tk 7 ?_
   refine tk 8 ?_
   refine wpAnyH_done (by kernel_rfl) ?_ _
   go_wp2_with fail
   have HN:=hid (HI.out.then (Keep.refl (fun _=>False) wr).drew)
   go_roundw
   case rel=>first | exact ⟨j+1,by omega,by go_num,HN⟩ | ((repeat apply Exists.intro);refine And.intro ?_ rfl;exact ⟨j+1,by omega,by go_num,HN⟩)
   case measure=>simp [RowKit.intOf];omega
  ·obtain rfl:j=l.length:=by omega
   go_wp2_with fail
   go_ret
   exact ⟨rfl,HI.out⟩
theorem pk_at {w:World} {Av:Nat→Prop} {B:Option Addr} {l:List PkA} (h:Sl w Av 3 B l.length (l.flatMap PkA.cells)) {k:Nat} {a:PkA} (ha:l[k]? = some a):∃ b off,B=some ⟨b,off,none⟩∧b<w.heap.size ∧
 w.cell? ⟨b,off+k * 3,none⟩=some (.int .i64 a.f)∧w.cell? ⟨b,off+k * 3+1,none⟩=some (.int .i64 a.t)∧w.cell? ⟨b,off+k * 3+2,none⟩=some (.slice a.A a.b.length a.c):=by
 have hk:=(List.getElem?_eq_some_iff.1 ha).1
 obtain ⟨b,off,e,hb,_,hr⟩:=h.at_ (by omega)
 have hc:∀ i u,i<3→a.cells[i]? = some u→w.cell? ⟨b,off+(k * 3+i),none⟩=some u:=fun i u hi hu=>hr (k * 3+i) u (by
  have:=flat_get PkA.cells 3 (fun _=>rfl) l k i hi
  rw [ha] at this
  rw [this];exact hu)
 exact ⟨b,off,e,hb,hc 0 _ (by omega) rfl,by rw [Nat.add_assoc];exact hc 1 _ (by omega) rfl,by rw [Nat.add_assoc];exact hc 2 _ (by omega) rfl⟩
set_option maxHeartbeats 8000000 in
set_option maxRecDepth 100000 in
theorem lettersQ (w:World) (Av Bv:Nat→Prop) (A B:Option Addr) (ca cb:Nat) (l m:List PkA) (ha:Sl w Av 3 A l.length (l.flatMap PkA.cells)) (hb:Sl w Bv 3 B m.length (m.flatMap PkA.cells)) (hla:∀ y∈l,Sl w Av 1 y.A y.b.length (bcells y.b)) (hlb:∀ y∈m,Sl w Bv 1 y.A y.b.length (bcells y.b))
 (he:l.map PkA.pt=m.map PkA.pt) (hl:l.length≤1000000):Calls Tryz.prog 11 #[.slice A l.length ca,.slice B m.length cb] w (fun e w'=>e=.returned (.bool true)∧Same w w'):=by
 have HA:=hid (fun W (hk:Same w W)=>ha.same hk)
 have HB:=hid (fun W (hk:Same w W)=>hb.same hk)
 have HLA:=hid (fun W (hk:Same w W) y hy=>(hla y hy).same hk)
 have HLB:=hid (fun W (hk:Same w W) y hy=>(hlb y hy).same hk)
 have HE:=hid he
 have hml:m.length=l.length:=by have:=congrArg List.length he;simpa using this.symm
 rw [hml]
 have HML:=hid hml
 clear ha hb hla hlb he hml
 go_enter Tryz.func11,Tryz.ntmps11
 go_wp2_with fail
 go_loopw [13] (fun i wr=>∃ j:Nat,j≤l.length∧i=.int .i64 j∧Hid (Same w wr)) (fun i _=>l.length - (RowKit.intOf i).toNat)
 case atStart=>exact ⟨0,Nat.zero_le _,rfl,hid (Keep.refl _ _)⟩
 case round =>
  obtain ⟨j,hj,rfl,HI⟩:=hrel
  have hj0:(0:Int)≤(j:Int):=Int.natCast_nonneg _
  by_cases hjn:j<l.length
  ·have hj1:(j:Int)<(l.length:Int):=by omega
   obtain ⟨x,hx⟩:=get_some hjn
   obtain ⟨y,hy⟩:=get_some (l:=m) (k:=j) (by rw [HML.out];exact hjn)
   have hxy:x.pt=y.pt:=by
    have h1:(l.map PkA.pt)[j]? = some x.pt:=by rw [List.getElem?_map,hx];rfl
    have h2:(m.map PkA.pt)[j]? = some y.pt:=by rw [List.getElem?_map,hy];rfl
    rw [HE.out,h2] at h1
    injection h1 with h1;exact h1.symm
   have hf:y.f=x.f:=(congrArg Pk.f hxy).symm
   have ht:y.t=x.t:=(congrArg Pk.t hxy).symm
   have hbb:y.b=x.b:=(congrArg Pk.b hxy).symm
   obtain ⟨b1,o1,hB1,_,u0,u1,u2⟩:=pk_at (HA.out wr HI.out) hx
   obtain ⟨b2,o2,hB2,_,v0,v1,v2⟩:=pk_at (HB.out wr HI.out) hy
   have hsx:=HLA.out wr HI.out x (List.mem_of_getElem? hx)
   have hsy:=HLB.out wr HI.out y (List.mem_of_getElem? hy)
   rw [hbb] at hsy v2
   rw [hf] at v0
   rw [ht] at v1
   subst hB1
   subst hB2
   have HSX:=hid (fun W (hk:Same wr W)=>hsx.same hk)
   have HSY:=hid (fun W (hk:Same wr W)=>hsy.same hk)
   clear hx hy hxy hf ht hbb hsx hsy
   go_upto_region 6 with fail
   refine wp_region_held_drew (S:=fun W=>W.cell? ⟨b1,o1+j * 3,none⟩=some (.int .i64 x.f)∧W.cell? ⟨b1,o1+j * 3+1,none⟩=some (.int .i64 x.t)∧W.cell? ⟨b1,o1+j * 3+2,none⟩=some (.slice x.A x.b.length x.c)∧W.cell? ⟨b2,o2+j * 3,none⟩=some (.int .i64 x.f)∧W.cell? ⟨b2,o2+j * 3+1,none⟩=some (.int .i64 x.t)∧W.cell? ⟨b2,o2+j * 3+2,none⟩=some (.slice y.A x.b.length y.c)∧Sl W Av 1 x.A x.b.length (bcells x.b)∧Sl W Bv 1 y.A x.b.length (bcells x.b)) (by kernel_rfl) ⟨u0,u1,u2,v0,v1,v2,(HSX.out _ (Keep.refl (fun _=>False) wr).drew),(HSY.out _ (Keep.refl (fun _=>False) wr).drew)⟩ (fun hHeld=>?_)
   refine tk 0 ?_
   refine tk 1 ?_
   refine tk 2 ?_
   refine tk 3 ?_
   refine tk 4 ?_
   refine tk 5 ?_
   refine tk 6 ?_
   refine tk 7 ?_
   refine tk 8 ?_
   refine tk 9 ?_
   refine tk 10 ?_
   refine tk 11 ?_
   refine tk 12 ?_
   refine tk 13 ?_
   refine tk 14 ?_
   refine tk 15 ?_
   refine tk 16 ?_
   refine tk 17 ?_
   refine tk 18 ?_
   refine tk 19 ?_
   refine tk 20 ?_
   refine tk 21 ?_
   refine tk 22 ?_
   refine tk 23 ?_
   refine tk 24 ?_
   refine tk 25 ?_
   refine tk 26 ?_
   refine tk 27 ?_
   refine tk 28 ?_
   refine tk 29 ?_
   refine takeO (i:=30) (v:=.string (strOf x.b)) (by kernel_rfl) (by kernel_rfl) (by kernel_rfl) (fun c a d v w h=>by cases d <;> exact h) (oi:=?_) ?_ ?_ (by assumption) ?_
   rotate_left 1
   ·(simp only [List.getElem?_toArray,List.getElem?_cons_succ,List.getElem?_cons_zero];rfl)
   ·(refine Or.inl ⟨by rfl,?_⟩;intro w hSw;(try dsimp only at hSw);obtain ⟨hS0,hS1,hS2,hS3,hS4,hS5,hS6,hS7⟩:=hSw;have hcv:=conv_str w _ x.A x.b.length x.c x.b hS6;go_simp)
   refine pput ?_
   refine tk 31 ?_
   refine tk 32 ?_
   refine tk 33 ?_
   refine tk 34 ?_
   refine tk 35 ?_
   refine takeO (i:=36) (v:=.string (strOf x.b)) (by kernel_rfl) (by kernel_rfl) (by kernel_rfl) (fun c a d v w h=>by cases d <;> exact h) (oi:=?_) ?_ ?_ (by assumption) ?_
   rotate_left 1
   ·(simp only [List.getElem?_toArray,List.getElem?_cons_succ,List.getElem?_cons_zero];rfl)
   ·(refine Or.inl ⟨by rfl,?_⟩;intro w hSw;(try dsimp only at hSw);obtain ⟨hS0,hS1,hS2,hS3,hS4,hS5,hS6,hS7⟩:=hSw;have hcv:=conv_str w _ y.A x.b.length y.c x.b hS7;go_simp)
   refine pput ?_
   refine tk 37 ?_
   refine tk 38 ?_
   refine wpAnyH_done (by kernel_rfl) ?_ _
   go_wp2_with fail
   have HN:=hid (HI.out.then (Keep.refl (fun _=>False) wr).drew)
   go_roundw
   case rel=>first | exact ⟨j+1,by omega,by go_num,HN⟩ | ((repeat apply Exists.intro);refine And.intro ?_ rfl;exact ⟨j+1,by omega,by go_num,HN⟩)
   case measure=>simp [RowKit.intOf];omega
  ·obtain rfl:j=l.length:=by omega
   go_wp2_with fail
   go_ret
   exact ⟨rfl,HI.out⟩
theorem range_ev {w:World} {b off:Nat} {R:List Ev} (h:Row w b off (R.flatMap Ev.cells)) {i:Nat} {x:Ev} (hx:R[i]? = some x):w.rangeAt b (off+i * 28) x.cells:=by
 intro j v hv
 have hj:j<28:=(List.getElem?_eq_some_iff.1 hv).1
 have h1:=flat_get Ev.cells 28 (fun _=>rfl) R i j hj
 rw [hx] at h1
 have h2:=h (i * 28+j) v (by rw [h1];exact hv)
 rw [Nat.add_assoc]
 exact h2
set_option maxHeartbeats 8000000 in
set_option maxRecDepth 100000 in
theorem eventsQ (w:World) (Av Bv:Nat→Prop) (A B:Option Addr) (ca cb:Nat) (l:List Ev) (ha:Sl w Av 28 A l.length (l.flatMap Ev.cells)) (hb:Sl w Bv 28 B l.length (l.flatMap Ev.cells)) (hl:l.length≤1000000):Calls Tryz.prog 13 #[.slice A l.length ca,.slice B l.length cb] w (fun e w'=>e=.returned (.bool true)∧Same w w'):=by
 have HA:=hid (fun W (hk:Same w W)=>ha.same hk)
 have HB:=hid (fun W (hk:Same w W)=>hb.same hk)
 clear ha hb
 go_enter Tryz.func13,Tryz.ntmps13
 go_wp2_with fail
 go_loopw [15] (fun i wr=>∃ j:Nat,j≤l.length∧i=.int .i64 j∧Hid (Same w wr)) (fun i _=>l.length - (RowKit.intOf i).toNat)
 case atStart=>exact ⟨0,Nat.zero_le _,rfl,hid (Keep.refl _ _)⟩
 case round =>
  obtain ⟨j,hj,rfl,HI⟩:=hrel
  have hj0:(0:Int)≤(j:Int):=Int.natCast_nonneg _
  by_cases hjn:j<l.length
  ·have hj1:(j:Int)<(l.length:Int):=by omega
   obtain ⟨x,hx⟩:=get_some hjn
   obtain ⟨b1,o1,hB1,_,_,hr1⟩:=(HA.out wr HI.out).at_ (by omega)
   obtain ⟨b2,o2,hB2,_,_,hr2⟩:=(HB.out wr HI.out).at_ (by omega)
   have HR1:=hid (range_ev hr1 hx)
   have HR2:=hid (range_ev hr2 hx)
   subst hB1
   subst hB2
   clear hx hr1 hr2
   go_upto_region 6 with fail
   refine wp_region_held_drew (S:=fun W=>W.rangeAt b1 (o1+j * 28) x.cells∧W.rangeAt b2 (o2+j * 28) x.cells) (by kernel_rfl) ⟨range_same HR1.out (Keep.refl (fun _=>False) wr).drew,range_same HR2.out (Keep.refl (fun _=>False) wr).drew⟩ (fun hHeld=>?_)
   refine tk 0 ?_
   refine tk 1 ?_
   refine tk 2 ?_
   refine tM 3 (.tmp 20) (b1) (o1+j * 28) x.cells (fun W hS=>hS.1) Tryz.underlying104 ?_
   refine tk 4 ?_
   refine tk 5 ?_
   refine tk 6 ?_
   refine tM 7 (.tmp 24) (b2) (o2+j * 28) x.cells (fun W hS=>hS.2) Tryz.underlying104 ?_
   have HSd:=hid (fun W (hk:Same wr.drew W)=>show W.rangeAt b1 (o1+j * 28) x.cells∧W.rangeAt b2 (o2+j * 28) x.cells from ⟨range_same HR1.out ((Keep.refl (fun _=>False) wr).drew.then hk),range_same HR2.out ((Keep.refl (fun _=>False) wr).drew.then hk)⟩)
   have HID:=hid (HI.out.then (Keep.refl (fun _=>False) wr).drew)
   clear hHeld HR1 HR2
   generalize wr.drew=wd at *
   apply one_rest (F:=fun g h W=>Blk W g 104 x.cells.toArray∧Blk W h 104 x.cells.toArray∧Same wd W)
   case main =>
    intro REST
    refine wpAnyH_ready (rs:=[8,9]) (by kernel_rfl) (by simp) ?_
    refine AllReadyH.cons rfl (fun K hK=>?_) (AllReadyH.cons rfl (fun K hK=>?_) AllReadyH.nil)
    ·go_simp
     have HB1:=hid (Blk.made wd 104 #[.int .i64 0,.int .i64 0,.int .i64 0,.int .i64 0,.int .i64 0,.int .i64 0,.int .i64 0,.int .i64 0,.slice none 0 0,.int .i64 0,.int .i64 0,.int .i64 0,.int .i64 0,.int .i64 0,.int .i64 0,.int .i64 0,.int .i64 0,.int .i64 0,.int .i64 0,.int .i64 0,.int .i64 0,.int .i64 0,.int .i64 0,.int .i64 0,.int .i64 0,.slice none 0 0,.slice none 0 0,.slice none 0 0])
     have HK1:=hid ((Keep.refl (fun _=>False) wd).alloc (.cells #[.int .i64 0,.int .i64 0,.int .i64 0,.int .i64 0,.int .i64 0,.int .i64 0,.int .i64 0,.int .i64 0,.slice none 0 0,.int .i64 0,.int .i64 0,.int .i64 0,.int .i64 0,.int .i64 0,.int .i64 0,.int .i64 0,.int .i64 0,.int .i64 0,.int .i64 0,.int .i64 0,.int .i64 0,.int .i64 0,.int .i64 0,.int .i64 0,.int .i64 0,.slice none 0 0,.slice none 0 0,.slice none 0 0] 104))
     obtain ⟨g1,hg1⟩:∃ g,g=wd.heap.size:=⟨_,rfl⟩
     rw [←hg1] at HB1 ⊢
     have HG1:=hid (show wd.heap.size≤g1 from by rw [hg1];exact ((Keep.refl (fun _=>False) wd)).size)
     clear hg1
     generalize (wd.alloc (.cells #[.int .i64 0,.int .i64 0,.int .i64 0,.int .i64 0,.int .i64 0,.int .i64 0,.int .i64 0,.int .i64 0,.slice none 0 0,.int .i64 0,.int .i64 0,.int .i64 0,.int .i64 0,.int .i64 0,.int .i64 0,.int .i64 0,.int .i64 0,.int .i64 0,.int .i64 0,.int .i64 0,.int .i64 0,.int .i64 0,.int .i64 0,.int .i64 0,.int .i64 0,.slice none 0 0,.slice none 0 0,.slice none 0 0] 104))=u1 at *
     refine hK.out _ _ (HSd.out _ HK1.out) (fun hHeld1=>?_)
     clear hK K
     refine pput ?_
     refine rd1 9 (fun K hK=>?_)
     go_simp
     have HB2:=hid (Blk.made u1 104 #[.int .i64 0,.int .i64 0,.int .i64 0,.int .i64 0,.int .i64 0,.int .i64 0,.int .i64 0,.int .i64 0,.slice none 0 0,.int .i64 0,.int .i64 0,.int .i64 0,.int .i64 0,.int .i64 0,.int .i64 0,.int .i64 0,.int .i64 0,.int .i64 0,.int .i64 0,.int .i64 0,.int .i64 0,.int .i64 0,.int .i64 0,.int .i64 0,.int .i64 0,.slice none 0 0,.slice none 0 0,.slice none 0 0])
     have HK2:=hid (HK1.out.alloc (.cells #[.int .i64 0,.int .i64 0,.int .i64 0,.int .i64 0,.int .i64 0,.int .i64 0,.int .i64 0,.int .i64 0,.slice none 0 0,.int .i64 0,.int .i64 0,.int .i64 0,.int .i64 0,.int .i64 0,.int .i64 0,.int .i64 0,.int .i64 0,.int .i64 0,.int .i64 0,.int .i64 0,.int .i64 0,.int .i64 0,.int .i64 0,.int .i64 0,.int .i64 0,.slice none 0 0,.slice none 0 0,.slice none 0 0] 104))
     have HC2:=hid (HB1.out.alloc (.cells #[.int .i64 0,.int .i64 0,.int .i64 0,.int .i64 0,.int .i64 0,.int .i64 0,.int .i64 0,.int .i64 0,.slice none 0 0,.int .i64 0,.int .i64 0,.int .i64 0,.int .i64 0,.int .i64 0,.int .i64 0,.int .i64 0,.int .i64 0,.int .i64 0,.int .i64 0,.int .i64 0,.int .i64 0,.int .i64 0,.int .i64 0,.int .i64 0,.int .i64 0,.slice none 0 0,.slice none 0 0,.slice none 0 0] 104))
     have HD2:=hid (show u1.heap.size≠g1 from fun e=>by have:=(HB1.out).lt;omega)
     obtain ⟨g2,hg2⟩:∃ g,g=u1.heap.size:=⟨_,rfl⟩
     rw [←hg2] at HB2 HD2 ⊢
     have HG2:=hid (show wd.heap.size≤g2 from by rw [hg2];exact (HK1.out).size)
     clear hg2
     generalize (u1.alloc (.cells #[.int .i64 0,.int .i64 0,.int .i64 0,.int .i64 0,.int .i64 0,.int .i64 0,.int .i64 0,.int .i64 0,.slice none 0 0,.int .i64 0,.int .i64 0,.int .i64 0,.int .i64 0,.int .i64 0,.int .i64 0,.int .i64 0,.int .i64 0,.int .i64 0,.int .i64 0,.int .i64 0,.int .i64 0,.int .i64 0,.int .i64 0,.int .i64 0,.int .i64 0,.slice none 0 0,.slice none 0 0,.slice none 0 0] 104))=u2 at *
     refine hK.out _ _ (HSd.out _ HK2.out) (fun hHeld2=>?_)
     clear hK K
     refine pput ?_
     refine rd1 10 (fun K hK=>?_)
     refine store_step rfl _ (.tmp 6) (.tmp 21) rfl g1 x.cells.toArray rfl rfl _ _ (HC2.out) (by kernel_rfl) rfl (one_toArray (ev_one x)) ?_
     have hks3:Keep (fun j=>j=g1) u2 (u2.setRow g1 x.cells.toArray):=Keep.row _ _ _
     have HK3:=hid (HK2.out.trans hks3 (fun j hj e=>by have e2:j=g1:=e;have h9:=HG1.out;omega))
     have HB3:=hid ((HC2.out).row x.cells.toArray)
     have HC3:=hid ((HB2.out).keep hks3 (fun e=>by have e2:g2=g1:=e;have h9:=HD2.out;omega))
     clear hks3
     generalize (u2.setRow g1 x.cells.toArray)=u3 at *
     refine hK.out _ _ (HSd.out _ HK3.out) (fun hHeld3=>?_)
     clear hK K
     refine pput ?_
     refine rd1 11 (fun K hK=>?_)
     refine store_step rfl _ (.tmp 7) (.tmp 25) rfl g2 x.cells.toArray rfl rfl _ _ (HC3.out) (by kernel_rfl) rfl (one_toArray (ev_one x)) ?_
     have hks4:Keep (fun j=>j=g2) u3 (u3.setRow g2 x.cells.toArray):=Keep.row _ _ _
     have HK4:=hid (HK3.out.trans hks4 (fun j hj e=>by have e2:j=g2:=e;have h9:=HG2.out;omega))
     have HB4:=hid ((HC3.out).row x.cells.toArray)
     have HC4:=hid ((HB3.out).keep hks4 (fun e=>by have e2:g1=g2:=e;have h9:=HD2.out;omega))
     clear hks4
     generalize (u3.setRow g2 x.cells.toArray)=u4 at *
     refine hK.out _ _ (HSd.out _ HK4.out) (fun hHeld4=>?_)
     clear hK K
     refine pput ?_
     refine wpAnyH_done (by kernel_rfl) ?_ _
     exact REST g1 g2 _ ⟨HC4.out,HB4.out,HK4.out⟩
    ·go_simp
     have HB5:=hid (Blk.made wd 104 #[.int .i64 0,.int .i64 0,.int .i64 0,.int .i64 0,.int .i64 0,.int .i64 0,.int .i64 0,.int .i64 0,.slice none 0 0,.int .i64 0,.int .i64 0,.int .i64 0,.int .i64 0,.int .i64 0,.int .i64 0,.int .i64 0,.int .i64 0,.int .i64 0,.int .i64 0,.int .i64 0,.int .i64 0,.int .i64 0,.int .i64 0,.int .i64 0,.int .i64 0,.slice none 0 0,.slice none 0 0,.slice none 0 0])
     have HK5:=hid ((Keep.refl (fun _=>False) wd).alloc (.cells #[.int .i64 0,.int .i64 0,.int .i64 0,.int .i64 0,.int .i64 0,.int .i64 0,.int .i64 0,.int .i64 0,.slice none 0 0,.int .i64 0,.int .i64 0,.int .i64 0,.int .i64 0,.int .i64 0,.int .i64 0,.int .i64 0,.int .i64 0,.int .i64 0,.int .i64 0,.int .i64 0,.int .i64 0,.int .i64 0,.int .i64 0,.int .i64 0,.int .i64 0,.slice none 0 0,.slice none 0 0,.slice none 0 0] 104))
     obtain ⟨g5,hg5⟩:∃ g,g=wd.heap.size:=⟨_,rfl⟩
     rw [←hg5] at HB5 ⊢
     have HG5:=hid (show wd.heap.size≤g5 from by rw [hg5];exact ((Keep.refl (fun _=>False) wd)).size)
     clear hg5
     generalize (wd.alloc (.cells #[.int .i64 0,.int .i64 0,.int .i64 0,.int .i64 0,.int .i64 0,.int .i64 0,.int .i64 0,.int .i64 0,.slice none 0 0,.int .i64 0,.int .i64 0,.int .i64 0,.int .i64 0,.int .i64 0,.int .i64 0,.int .i64 0,.int .i64 0,.int .i64 0,.int .i64 0,.int .i64 0,.int .i64 0,.int .i64 0,.int .i64 0,.int .i64 0,.int .i64 0,.slice none 0 0,.slice none 0 0,.slice none 0 0] 104))=u5 at *
     refine hK.out _ _ (HSd.out _ HK5.out) (fun hHeld5=>?_)
     clear hK K
     refine pput ?_
     refine rd1 8 (fun K hK=>?_)
     go_simp
     have HB6:=hid (Blk.made u5 104 #[.int .i64 0,.int .i64 0,.int .i64 0,.int .i64 0,.int .i64 0,.int .i64 0,.int .i64 0,.int .i64 0,.slice none 0 0,.int .i64 0,.int .i64 0,.int .i64 0,.int .i64 0,.int .i64 0,.int .i64 0,.int .i64 0,.int .i64 0,.int .i64 0,.int .i64 0,.int .i64 0,.int .i64 0,.int .i64 0,.int .i64 0,.int .i64 0,.int .i64 0,.slice none 0 0,.slice none 0 0,.slice none 0 0])
     have HK6:=hid (HK5.out.alloc (.cells #[.int .i64 0,.int .i64 0,.int .i64 0,.int .i64 0,.int .i64 0,.int .i64 0,.int .i64 0,.int .i64 0,.slice none 0 0,.int .i64 0,.int .i64 0,.int .i64 0,.int .i64 0,.int .i64 0,.int .i64 0,.int .i64 0,.int .i64 0,.int .i64 0,.int .i64 0,.int .i64 0,.int .i64 0,.int .i64 0,.int .i64 0,.int .i64 0,.int .i64 0,.slice none 0 0,.slice none 0 0,.slice none 0 0] 104))
     have HC6:=hid (HB5.out.alloc (.cells #[.int .i64 0,.int .i64 0,.int .i64 0,.int .i64 0,.int .i64 0,.int .i64 0,.int .i64 0,.int .i64 0,.slice none 0 0,.int .i64 0,.int .i64 0,.int .i64 0,.int .i64 0,.int .i64 0,.int .i64 0,.int .i64 0,.int .i64 0,.int .i64 0,.int .i64 0,.int .i64 0,.int .i64 0,.int .i64 0,.int .i64 0,.int .i64 0,.int .i64 0,.slice none 0 0,.slice none 0 0,.slice none 0 0] 104))
     have HD6:=hid (show u5.heap.size≠g5 from fun e=>by have:=(HB5.out).lt;omega)
     obtain ⟨g6,hg6⟩:∃ g,g=u5.heap.size:=⟨_,rfl⟩
     rw [←hg6] at HB6 HD6 ⊢
     have HG6:=hid (show wd.heap.size≤g6 from by rw [hg6];exact (HK5.out).size)
     clear hg6
     generalize (u5.alloc (.cells #[.int .i64 0,.int .i64 0,.int .i64 0,.int .i64 0,.int .i64 0,.int .i64 0,.int .i64 0,.int .i64 0,.slice none 0 0,.int .i64 0,.int .i64 0,.int .i64 0,.int .i64 0,.int .i64 0,.int .i64 0,.int .i64 0,.int .i64 0,.int .i64 0,.int .i64 0,.int .i64 0,.int .i64 0,.int .i64 0,.int .i64 0,.int .i64 0,.int .i64 0,.slice none 0 0,.slice none 0 0,.slice none 0 0] 104))=u6 at *
     refine hK.out _ _ (HSd.out _ HK6.out) (fun hHeld6=>?_)
     clear hK K
     refine pput ?_
     refine rd1 10 (fun K hK=>?_)
     refine store_step rfl _ (.tmp 6) (.tmp 21) rfl g6 x.cells.toArray rfl rfl _ _ (HB6.out) (by kernel_rfl) rfl (one_toArray (ev_one x)) ?_
     have hks7:Keep (fun j=>j=g6) u6 (u6.setRow g6 x.cells.toArray):=Keep.row _ _ _
     have HK7:=hid (HK6.out.trans hks7 (fun j hj e=>by have e2:j=g6:=e;have h9:=HG6.out;omega))
     have HB7:=hid ((HB6.out).row x.cells.toArray)
     have HC7:=hid ((HC6.out).keep hks7 (fun e=>by have e2:g5=g6:=e;have h9:=HD6.out;omega))
     clear hks7
     generalize (u6.setRow g6 x.cells.toArray)=u7 at *
     refine hK.out _ _ (HSd.out _ HK7.out) (fun hHeld7=>?_)
     clear hK K
     refine pput ?_
     refine rd1 11 (fun K hK=>?_)
     refine store_step rfl _ (.tmp 7) (.tmp 25) rfl g5 x.cells.toArray rfl rfl _ _ (HC7.out) (by kernel_rfl) rfl (one_toArray (ev_one x)) ?_
     have hks8:Keep (fun j=>j=g5) u7 (u7.setRow g5 x.cells.toArray):=Keep.row _ _ _
     have HK8:=hid (HK7.out.trans hks8 (fun j hj e=>by have e2:j=g5:=e;have h9:=HG5.out;omega))
     have HB8:=hid ((HC7.out).row x.cells.toArray)
     have HC8:=hid ((HB7.out).keep hks8 (fun e=>by have e2:g6=g5:=e;have h9:=HD6.out;omega))
     clear hks8
     generalize (u7.setRow g5 x.cells.toArray)=u8 at *
     refine hK.out _ _ (HSd.out _ HK8.out) (fun hHeld8=>?_)
     clear hK K
     refine pput ?_
     refine wpAnyH_done (by kernel_rfl) ?_ _
     exact REST g6 g5 _ ⟨HC8.out,HB8.out,HK8.out⟩
   case rest =>
    intro g h W hF
    obtain ⟨h1,h2,h3⟩:=hF
    have p0:W.cell? ⟨g,0,none⟩=some (.int .i64 x.k):=h1.at_ 0
    have p1:W.cell? ⟨g,1,none⟩=some (.int .i64 x.t):=h1.at_ 1
    have p2:W.cell? ⟨g,2,none⟩=some (.int .i64 x.w):=h1.at_ 2
    have p3:W.cell? ⟨g,3,none⟩=some (.int .i64 x.c):=h1.at_ 3
    have p4:W.cell? ⟨g,4,none⟩=some (.int .i64 x.e):=h1.at_ 4
    have p5:W.cell? ⟨g,5,none⟩=some (.int .i64 x.n):=h1.at_ 5
    have p8:W.cell? ⟨g,8,none⟩=some (.slice none 0 0):=h1.at_ 8
    have p25:W.cell? ⟨g,25,none⟩=some (.slice none 0 0):=h1.at_ 25
    have p26:W.cell? ⟨g,26,none⟩=some (.slice none 0 0):=h1.at_ 26
    have p27:W.cell? ⟨g,27,none⟩=some (.slice none 0 0):=h1.at_ 27
    have r0:W.cell? ⟨h,0,none⟩=some (.int .i64 x.k):=h2.at_ 0
    have r1:W.cell? ⟨h,1,none⟩=some (.int .i64 x.t):=h2.at_ 1
    have r2:W.cell? ⟨h,2,none⟩=some (.int .i64 x.w):=h2.at_ 2
    have r3:W.cell? ⟨h,3,none⟩=some (.int .i64 x.c):=h2.at_ 3
    have r4:W.cell? ⟨h,4,none⟩=some (.int .i64 x.e):=h2.at_ 4
    have r5:W.cell? ⟨h,5,none⟩=some (.int .i64 x.n):=h2.at_ 5
    have r8:W.cell? ⟨h,8,none⟩=some (.slice none 0 0):=h2.at_ 8
    have r25:W.cell? ⟨h,25,none⟩=some (.slice none 0 0):=h2.at_ 25
    have r26:W.cell? ⟨h,26,none⟩=some (.slice none 0 0):=h2.at_ 26
    have r27:W.cell? ⟨h,27,none⟩=some (.slice none 0 0):=h2.at_ 27
    have HN:=hid (HID.out.then h3)
    clear h1 h2 h3
    go_wp2_with fail
    go_roundw
    case rel=>first | exact ⟨j+1,by omega,by go_num,HN⟩ | ((repeat apply Exists.intro);refine And.intro ?_ rfl;exact ⟨j+1,by omega,by go_num,HN⟩)
    case measure=>simp [RowKit.intOf];omega
  ·obtain rfl:j=l.length:=by omega
   go_wp2_with fail
   go_ret
   exact ⟨rfl,HI.out⟩
structure AT where
 k:Int
 node:Int
 SB:Option Addr
 sc:Nat
 src:List SA
 call:Int
 n:Int
 note:Nt
 NA:Option Addr
 nc:Nat
 fr:Int
 tt:Int
 PA:Option Addr
 pc:Nat
 sp:List UInt8
 now:Int
def AT.cells (a:AT):List Value:=[.int .i64 a.k,.int .i64 a.node,.slice a.SB a.src.length a.sc,.int .i64 a.call,.int .i64 a.n,.int .i64 a.note.k,.int .i64 a.note.call,.int .i64 a.note.d,.int .i64 a.note.c,.int .i64 a.note.e,.int .i64 a.note.n,.slice a.NA a.note.body.length a.nc,.int .i64 a.fr,.int .i64 a.tt,.slice a.PA a.sp.length a.pc,.int .i64 a.now]
structure ATok (w:World) (Av:Nat→Prop) (a:AT):Prop where
 src:SAs w Av a.SB a.src
 body:Sl w Av 1 a.NA a.note.body.length (bcells a.note.body)
 sp:Sl w Av 1 a.PA a.sp.length (bcells a.sp)
 ls:a.src.length≤maxLen
structure ATs (w:World) (Av:Nat→Prop) (B:Option Addr) (l:List AT):Prop where
 sl:Sl w Av 16 B l.length (l.flatMap AT.cells)
 el:∀ a∈l,ATok w Av a
theorem ATok.keep {S Av:Nat→Prop} {w w':World} {a:AT} (h:ATok w Av a) (hk:Keep S w w') (hS:∀ i,i<w.heap.size→S i→Av i):ATok w' Av a:=⟨h.src.keep hk hS,h.body.keep hk hS,h.sp.keep hk hS,h.ls⟩
theorem ATok.same {Av:Nat→Prop} {w w':World} {a:AT} (h:ATok w Av a) (hk:Same w w'):ATok w' Av a:=h.keep hk (fun _ _ f=>f.elim)
theorem ATok.wide {Av Av':Nat→Prop} {w:World} {a:AT} (h:ATok w Av a) (hS:∀ i,i<w.heap.size→Av' i→Av i):ATok w Av' a:=⟨h.src.wide hS,h.body.wide hS,h.sp.wide hS,h.ls⟩
theorem ATs.keep {S Av:Nat→Prop} {w w':World} {B:Option Addr} {l:List AT} (h:ATs w Av B l) (hk:Keep S w w') (hS:∀ i,i<w.heap.size→S i→Av i):ATs w' Av B l:=⟨h.sl.keep hk hS,fun a ha=>(h.el a ha).keep hk hS⟩
theorem ATs.same {Av:Nat→Prop} {w w':World} {B:Option Addr} {l:List AT} (h:ATs w Av B l) (hk:Same w w'):ATs w' Av B l:=h.keep hk (fun _ _ f=>f.elim)
theorem ATs.wide {Av Av':Nat→Prop} {w:World} {B:Option Addr} {l:List AT} (h:ATs w Av B l) (hS:∀ i,i<w.heap.size→Av' i→Av i):ATs w Av' B l:=⟨h.sl.wide hS,fun a ha=>(h.el a ha).wide hS⟩
theorem at_one (a:AT):∀ u∈a.cells,u.oneCell'=true:=by
 intro u hu
 simp only [AT.cells,List.mem_cons,List.not_mem_nil,or_false] at hu
 rcases hu with rfl | rfl | rfl | rfl | rfl | rfl | rfl | rfl | rfl | rfl | rfl | rfl | rfl | rfl | rfl | rfl <;> rfl
theorem range_at {w:World} {b off:Nat} {R:List AT} (h:Row w b off (R.flatMap AT.cells)) {i:Nat} {x:AT} (hx:R[i]? = some x):w.rangeAt b (off+i * 16) x.cells:=by
 intro j v hv
 have hj:j<16:=(List.getElem?_eq_some_iff.1 hv).1
 have h1:=flat_get AT.cells 16 (fun _=>rfl) R i j hj
 rw [hx] at h1
 have h2:=h (i * 16+j) v (by rw [h1];exact hv)
 rw [Nat.add_assoc]
 exact h2
def fewA (a:AT):Bool:=smB a.src && decide (a.note.body.length≤200) && decide (a.sp.length≤200)
def fewB (l:List AT):Bool:=l.all fewA && decide (l.length≤40)
theorem few_no {l:List AT} {a:AT} (ha:a∈l) (h:fewA a=false):fewB l=false:=by
 unfold fewB
 rw [Bool.and_eq_false_iff]
 left
 rw [List.all_eq_false]
 exact ⟨a,ha,by simp [h]⟩
set_option maxHeartbeats 8000000 in
set_option maxRecDepth 100000 in
theorem fewQ (w:World) (Av:Nat→Prop) (B:Option Addr) (cb:Nat) (l:List AT) (hs:ATs w Av B l) (hl:l.length≤maxLen):Calls Tryz.prog 26 #[.slice B l.length cb] w (fun e w'=>e=.returned (.bool (fewB l))∧Same w w'):=by
 have HS:=hid (fun W (hk:Same w W)=>hs.same hk)
 unfold maxLen at hl
 clear hs
 go_enter Tryz.func26,Tryz.ntmps26
 go_wp2_with fail
 go_loopw [7] (fun i wr=>∃ j:Nat,j≤l.length∧i=.int .i64 j∧Hid ((∀ k,k<j→∀ s,l[k]? = some s→fewA s=true)∧Same w wr)) (fun i _=>l.length - (RowKit.intOf i).toNat)
 case atStart=>exact ⟨0,Nat.zero_le _,rfl,hid ⟨fun k hk=>by omega,Keep.refl _ _⟩⟩
 case round =>
  obtain ⟨j,hj,rfl,HI⟩:=hrel
  have hj0:(0:Int)≤(j:Int):=Int.natCast_nonneg _
  by_cases hjn:j<l.length
  ·have hj1:(j:Int)<(l.length:Int):=by omega
   obtain ⟨a,ha⟩:=get_some hjn
   obtain ⟨b1,o1,hB1,_,_,hr1⟩:=(HS.out wr HI.out.2).sl.at_ (by omega)
   have HR1:=hid (range_at hr1 ha)
   subst hB1
   have hel:=(HS.out wr HI.out.2).el a (List.mem_of_getElem? ha)
   have HEL:=hid hel
   have HA:=hid ha
   have HSM:=hid (fun W (hk:Same wr W)=>smallQ W Av a.SB a.sc a.src (hel.src.same hk) hel.ls)
   have HZ:=hid (Blk.made wr 63 #[.int .i64 0,.int .i64 0,.slice none 0 0,.int .i64 0,.int .i64 0,.int .i64 0,.int .i64 0,.int .i64 0,.int .i64 0,.int .i64 0,.int .i64 0,.slice none 0 0,.int .i64 0,.int .i64 0,.slice none 0 0,.int .i64 0])
   clear ha hel hr1
   go_upto_region 4 with (first
    | (refine wpList_load_mid rfl _ (.tmp 9) rfl b1 (o1+j * 16) rfl a.cells _ HR1.out Tryz.underlying63 rfl (by kernel_rfl) ?_)
    | (refine wpList_store_row rfl _ (.tmp 4) (.tmp 10) rfl wr.heap.size a.cells.toArray rfl rfl _ _ HZ.out (by kernel_rfl) rfl (one_toArray (at_one a)) ?_))
   have hL3:Blk ((wr.alloc (.cells #[.int .i64 0,.int .i64 0,.slice none 0 0,.int .i64 0,.int .i64 0,.int .i64 0,.int .i64 0,.int .i64 0,.int .i64 0,.int .i64 0,.int .i64 0,.slice none 0 0,.int .i64 0,.int .i64 0,.slice none 0 0,.int .i64 0] 63)).setRow wr.heap.size a.cells.toArray) wr.heap.size 63 a.cells.toArray:=HZ.out.row _
   have hk3:Same wr ((wr.alloc (.cells #[.int .i64 0,.int .i64 0,.slice none 0 0,.int .i64 0,.int .i64 0,.int .i64 0,.int .i64 0,.int .i64 0,.int .i64 0,.int .i64 0,.int .i64 0,.slice none 0 0,.int .i64 0,.int .i64 0,.slice none 0 0,.int .i64 0] 63)).setRow wr.heap.size a.cells.toArray):=((Keep.refl (fun _=>False) wr).alloc _).trans (Keep.row _ _ _) (fun j hj e=>by have e2:j=wr.heap.size:=e;omega)
   obtain ⟨g,hg⟩:∃ g,g=wr.heap.size:=⟨_,rfl⟩
   rw [←hg] at hL3 hk3 ⊢
   have HL3:=hid hL3
   have HK3:=hid hk3
   clear hg hL3 hk3 HZ HR1
   generalize ((wr.alloc (.cells #[.int .i64 0,.int .i64 0,.slice none 0 0,.int .i64 0,.int .i64 0,.int .i64 0,.int .i64 0,.int .i64 0,.int .i64 0,.int .i64 0,.int .i64 0,.slice none 0 0,.int .i64 0,.int .i64 0,.slice none 0 0,.int .i64 0] 63)).setRow g a.cells.toArray)=w3 at *
   have y2:w3.cell? ⟨g,2,none⟩=some (.slice a.SB a.src.length a.sc):=HL3.out.at_ 2
   have HMEM:=hid (List.mem_of_getElem? HA.out)
   cases hsm:smB a.src with
   | false =>
     have HSMV:=hid hsm
     have HF:=hid (few_no HMEM.out (show fewA a=false from by unfold fewA;rw [hsm];rfl))
     clear hsm
     go_wp2_with (go_at_call 56;(with_reducible refine (HSM.out _ HK3.out).mono ?_);rintro e1 w4 ⟨rfl,hk4⟩;rw [HSMV.out];have HK4:=hid hk4;have hb4:=HL3.out.keep hk4 (fun f=>f);have y11:w4.cell? ⟨g,11,none⟩=some (.slice a.NA a.note.body.length a.nc):=hb4.at_ 11;have y14:w4.cell? ⟨g,14,none⟩=some (.slice a.PA a.sp.length a.pc):=hb4.at_ 14;clear hk4 hb4)
     go_ret
     exact ⟨by rw [HF.out];rfl,(HI.out.2.then HK3.out).then HK4.out⟩
   | true =>
     have HSMV:=hid hsm
     by_cases hb:(200:Int)<(a.note.body.length:Int)
     ·have HF:=hid (few_no HMEM.out (show fewA a=false from by unfold fewA;rw [hsm,decide_eq_false (by omega:¬a.note.body.length≤200)];rfl))
      clear hsm
      go_wp2_with (go_at_call 56;(with_reducible refine (HSM.out _ HK3.out).mono ?_);rintro e1 w4 ⟨rfl,hk4⟩;rw [HSMV.out];have HK4:=hid hk4;have hb4:=HL3.out.keep hk4 (fun f=>f);have y11:w4.cell? ⟨g,11,none⟩=some (.slice a.NA a.note.body.length a.nc):=hb4.at_ 11;have y14:w4.cell? ⟨g,14,none⟩=some (.slice a.PA a.sp.length a.pc):=hb4.at_ 14;clear hk4 hb4)
      go_ret
      exact ⟨by rw [HF.out];rfl,(HI.out.2.then HK3.out).then HK4.out⟩
     ·have hb:(a.note.body.length:Int)≤200:=by omega
      by_cases hp:(200:Int)<(a.sp.length:Int)
      ·have HF:=hid (few_no HMEM.out (show fewA a=false from by unfold fewA;rw [hsm,decide_eq_true (by omega:a.note.body.length≤200),decide_eq_false (by omega:¬a.sp.length≤200)];rfl))
       clear hsm
       go_wp2_with (go_at_call 56;(with_reducible refine (HSM.out _ HK3.out).mono ?_);rintro e1 w4 ⟨rfl,hk4⟩;rw [HSMV.out];have HK4:=hid hk4;have hb4:=HL3.out.keep hk4 (fun f=>f);have y11:w4.cell? ⟨g,11,none⟩=some (.slice a.NA a.note.body.length a.nc):=hb4.at_ 11;have y14:w4.cell? ⟨g,14,none⟩=some (.slice a.PA a.sp.length a.pc):=hb4.at_ 14;clear hk4 hb4)
       go_ret
       exact ⟨by rw [HF.out];rfl,(HI.out.2.then HK3.out).then HK4.out⟩
      ·have hp:(a.sp.length:Int)≤200:=by omega
       have HF:=hid (show fewA a=true from by unfold fewA;rw [hsm,decide_eq_true (by omega:a.note.body.length≤200),decide_eq_true (by omega:a.sp.length≤200)];rfl)
       clear hsm
       go_wp2_with (go_at_call 56;(with_reducible refine (HSM.out _ HK3.out).mono ?_);rintro e1 w4 ⟨rfl,hk4⟩;rw [HSMV.out];have HK4:=hid hk4;have hb4:=HL3.out.keep hk4 (fun f=>f);have y11:w4.cell? ⟨g,11,none⟩=some (.slice a.NA a.note.body.length a.nc):=hb4.at_ 11;have y14:w4.cell? ⟨g,14,none⟩=some (.slice a.PA a.sp.length a.pc):=hb4.at_ 14;clear hk4 hb4)
       have HN:=hid (show (∀ k,k<j+1→∀ s,l[k]? = some s→fewA s=true)∧Same w w4 from ⟨fun k hk s hs=>by
        by_cases e:k=j
        ·subst e
         rw [HA.out] at hs
         cases hs;exact HF.out
        ·exact HI.out.1 k (by omega) s hs,(HI.out.2.then HK3.out).then HK4.out⟩)
       go_roundw
       case rel=>first | exact ⟨j+1,by omega,by go_num,HN⟩ | ((repeat apply Exists.intro);refine And.intro ?_ rfl;exact ⟨j+1,by omega,by go_num,HN⟩)
       case measure=>simp [RowKit.intOf];omega
  ·obtain rfl:j=l.length:=by omega
   have HF:=hid (show fewB l=decide ((l.length:Int)≤40) from by
    unfold fewB
    rw [show l.all fewA=true from by
     rw [List.all_eq_true]
     intro s hs
     obtain ⟨k,hk⟩:=List.getElem?_of_mem hs
     exact HI.out.1 k (List.getElem?_eq_some_iff.1 hk).1 s hk,Bool.true_and]
    by_cases h:l.length≤40
    ·simp [h];omega
    ·simp [h];omega)
   go_wp2_with fail
   go_ret
   exact ⟨by rw [HF.out];rfl,HI.out.2⟩
end Go.Proofs.YtbjddfiledoaoaaGreat
namespace Go.Proofs.YtbjddfiledoaoaaGreat
open Go.ChangeShapes Go.WideShapes Go.ChangeAt Go.RowKit Go.Deep
section
variable {H:Type} {enc:TypeId × Value→H} {w:World}
theorem three3 {cs:List Value} (h:cs.length=3) {a b c:Value} (h0:cs[0]? = some a) (h1:cs[1]? = some b) (h2:cs[2]? = some c):cs=[a,b,c]:=by
 match cs,h with
 | [_,_,_],_=>simp_all
theorem reach_lt:reachBytes≤140737488355328:=by decide
theorem read_ints {n:Nat} {cs:List Value} {x:DataW H × List MemPlace} (hfit:Fits Tryz.prog 22 x.1) (h:DataW.trod enc Tryz.prog w 0 (fun _=>true) true n 22 cs=some x) :
 ∃ (A:Option Addr) (n c:Nat) (l:List Int),cs=[.slice A n c]∧l.length=n∧Sl w (fun _=>False) 1 A n (icellsC l)∧n≤c∧c≤maxLen∧n≤140737488355328:=by
 obtain ⟨A,q,c,l,h1,h2,h3,_,h5,h6,h7⟩:=sl_trodR (f:=fun a=>[Value.int .i64 a]) (G:=fun a=>(Lit.int .i64 a).wf=true) Tryz.underlying22 (by kernel_rfl) (by decide) (fun _=>rfl) hfit (fun n cs x h _=>by
  obtain ⟨a,ha,_,hw⟩:=DataW.trod_int Tryz.underlying3 h
  exact ⟨a,ha,hw⟩) h
 rw [ints_flat] at h3
 have hr:=reach_lt
 have hb8:Tryz.prog.bytesOf 3=8:=by kernel_rfl
 rw [hb8] at h7
 exact ⟨A,q,c,l,h1,h2,h3,h5,h6,by omega⟩
theorem read_edge {n:Nat} {cs:List Value} {x:DataW H × List MemPlace} (h:DataW.trod enc Tryz.prog w 0 (fun _=>true) true n 179 cs=some x):∃ a:E3,cs=a.cells∧True:=by
 obtain ⟨k,hk,_⟩:=field_int Tryz.underlying179 h 0 rfl Tryz.underlying3 (by kernel_rfl)
 obtain ⟨i,hi,_⟩:=field_int Tryz.underlying179 h 1 rfl Tryz.underlying3 (by kernel_rfl)
 obtain ⟨j,hj,_⟩:=field_int Tryz.underlying179 h 2 rfl Tryz.underlying2 (by kernel_rfl)
 obtain ⟨xs,m',_,_,hlen,_⟩:=DataW.trod_struct Tryz.underlying179 h
 have h3:cs.length=3:=by rw [hlen];kernel_rfl
 exact ⟨⟨k,i,j⟩,three3 h3 hk hi hj,trivial⟩
theorem read_unit {n:Nat} {cs:List Value} {x:DataW H × List MemPlace} (h:DataW.trod enc Tryz.prog w 0 (fun _=>true) true n 182 cs=some x):∃ a:E3,cs=a.cells∧True:=by
 obtain ⟨k,hk,_⟩:=field_int Tryz.underlying182 h 0 rfl Tryz.underlying3 (by kernel_rfl)
 obtain ⟨i,hi,_⟩:=field_int Tryz.underlying182 h 1 rfl Tryz.underlying3 (by kernel_rfl)
 obtain ⟨j,hj,_⟩:=field_int Tryz.underlying182 h 2 rfl Tryz.underlying3 (by kernel_rfl)
 obtain ⟨xs,m',_,_,hlen,_⟩:=DataW.trod_struct Tryz.underlying182 h
 have h3:cs.length=3:=by rw [hlen];kernel_rfl
 exact ⟨⟨k,i,j⟩,three3 h3 hk hi hj,trivial⟩
theorem read_plan {n:Nat} {cs:List Value} {x:DataW H × List MemPlace} (h:DataW.trod enc Tryz.prog w 0 (fun _=>true) true n 146 cs=some x) (hfit:Fits Tryz.prog 146 x.1) :
 ∃ p:PL,cs=p.cells∧(Sl w (fun _=>False) 1 p.K p.kinds.length (icellsC p.kinds)∧p.code.size≤140737488355328∧p.kinds.length≤140737488355328):=by
 obtain ⟨m1,y1,hy1,hf1⟩:=field_atR Tryz.underlying146 hfit h 0 rfl (by kernel_rfl)
 obtain ⟨s,hs,hsx,_⟩:=DataW.trod_string Tryz.underlying9 hy1
 obtain ⟨k,hk,_⟩:=field_int Tryz.underlying146 h 1 rfl Tryz.underlying3 (by kernel_rfl)
 obtain ⟨m2,y2,hy2,hf2⟩:=field_atR Tryz.underlying146 hfit h 2 rfl (by kernel_rfl)
 obtain ⟨A,q,c,l,h1,h2,h3,h5,h6,h7⟩:=read_ints hf2 hy2
 obtain ⟨xs,m',_,_,hlen,_⟩:=DataW.trod_struct Tryz.underlying146 h
 have h3':cs.length=3:=by rw [hlen];kernel_rfl
 have hss:s.size≤reachBytes:=by
  rw [hsx] at hf1
  have:=hf1.string
  have e:s.data.toList.length=s.size:=Array.length_toList
  omega
 have hr:=reach_lt
 subst h2
 exact ⟨⟨s,k,A,c,l⟩,three3 h3' (at_of_take hs) hk (at_of_take h1),h3,by simp only;omega,by simp only;omega⟩
set_option maxRecDepth 100000 in
set_option maxHeartbeats 4000000 in
theorem read_cf {fuel:Nat} {cs:List Value} {x:DataW H × List MemPlace} (hfu:DataW.trod enc Tryz.prog w 0 (fun _=>true) true fuel 27 cs=some x) (hfit:Fits Tryz.prog 27 x.1):∃ c:CF,cs=c.cells∧CM w c∧Few c:=by
 obtain ⟨xs,m',_,_,hlen',_⟩:=DataW.trod_struct Tryz.underlying27 hfu
 have hlen:cs.length=15:=by rw [hlen'];kernel_rfl
 obtain ⟨cen,g0,_⟩:=field_int Tryz.underlying27 hfu 0 rfl Tryz.underlying3 (by kernel_rfl)
 obtain ⟨m1,y1,hy1,hf1⟩:=field_atR Tryz.underlying27 hfit hfu 1 rfl (by kernel_rfl)
 obtain ⟨D,dn,cD,dis,e1,rfl,hD,bD1,bD2,_⟩:=read_ints hf1 hy1
 obtain ⟨m2,y2,hy2,hf2⟩:=field_atR Tryz.underlying27 hfit hfu 2 rfl (by kernel_rfl)
 obtain ⟨E,en,cE,edg,e2,rfl,hE,_,bE1,bE2,_⟩:=sl_trodR (f:=E3.cells) (k:=3) Tryz.underlying23 (by kernel_rfl) (by decide) (fun _=>rfl) hf2 (fun n cs x h _=>read_edge h) hy2
 obtain ⟨m3,y3,hy3,hf3⟩:=field_atR Tryz.underlying27 hfit hfu 3 rfl (by kernel_rfl)
 obtain ⟨U,un,cU,uni,e3,rfl,hU,_,bU1,bU2,_⟩:=sl_trodR (f:=E3.cells) (k:=3) Tryz.underlying24 (by kernel_rfl) (by decide) (fun _=>rfl) hf3 (fun n cs x h _=>read_unit h) hy3
 obtain ⟨m4,y4,hy4,hf4⟩:=field_atR Tryz.underlying27 hfit hfu 4 rfl (by kernel_rfl)
 obtain ⟨P,pn,cP,pla,e4,rfl,hP,hPl,bP1,bP2,_⟩:=sl_trodR (f:=PL.cells) (k:=3) Tryz.underlying25 (by kernel_rfl) (by decide) (fun _=>rfl) hf4 (fun n cs x h hf=>read_plan h hf) hy4
 obtain ⟨h0,g5,_⟩:=field_int Tryz.underlying27 hfu 5 rfl Tryz.underlying2 (by kernel_rfl)
 obtain ⟨h1,g6,_⟩:=field_int Tryz.underlying27 hfu 6 rfl Tryz.underlying2 (by kernel_rfl)
 obtain ⟨h2,g7,_⟩:=field_int Tryz.underlying27 hfu 7 rfl Tryz.underlying2 (by kernel_rfl)
 obtain ⟨h3,g8,_⟩:=field_int Tryz.underlying27 hfu 8 rfl Tryz.underlying2 (by kernel_rfl)
 obtain ⟨h4,g9,_⟩:=field_int Tryz.underlying27 hfu 9 rfl Tryz.underlying2 (by kernel_rfl)
 obtain ⟨h5,g10,_⟩:=field_int Tryz.underlying27 hfu 10 rfl Tryz.underlying2 (by kernel_rfl)
 obtain ⟨h6,g11,_⟩:=field_int Tryz.underlying27 hfu 11 rfl Tryz.underlying2 (by kernel_rfl)
 obtain ⟨h7,g12,_⟩:=field_int Tryz.underlying27 hfu 12 rfl Tryz.underlying2 (by kernel_rfl)
 obtain ⟨h8,g13,_⟩:=field_int Tryz.underlying27 hfu 13 rfl Tryz.underlying3 (by kernel_rfl)
 obtain ⟨h9,g14,_⟩:=field_int Tryz.underlying27 hfu 14 rfl Tryz.underlying3 (by kernel_rfl)
 have k1:=at_of_take e1
 have k2:=at_of_take e2
 have k3:=at_of_take e3
 have k4:=at_of_take e4
 refine ⟨⟨cen,D,cD,dis,E,cE,edg,U,cU,uni,P,cP,pla,h0,h1,h2,h3,h4,h5,h6,h7,h8,h9⟩,?_,⟨hD,hE,hU,hP,fun p hp=>?_,by simp only;omega,by simp only;omega,by simp only;omega,by simp only;omega,bP1⟩,fun p hp=>(hPl p hp).2⟩
 ·refine List.ext_getElem? fun i=>?_
  by_cases hi:i<15
  ·obtain rfl | rfl | rfl | rfl | rfl | rfl | rfl | rfl | rfl | rfl | rfl | rfl | rfl | rfl | rfl:i=0∨i=1∨i=2∨i=3∨i=4∨i=5∨i=6∨i=7∨i=8∨i=9∨i=10∨i=11∨i=12∨i=13∨i=14:=by omega
   ·exact g0
   ·exact k1
   ·exact k2
   ·exact k3
   ·exact k4
   ·exact g5
   ·exact g6
   ·exact g7
   ·exact g8
   ·exact g9
   ·exact g10
   ·exact g11
   ·exact g12
   ·exact g13
   ·exact g14
  ·rw [List.getElem?_eq_none (by omega),List.getElem?_eq_none (by simp [CF.cells];omega)]
 ·obtain ⟨q1,q2,q3⟩:=hPl p hp
  exact ⟨q1,by unfold maxLen;omega,by unfold maxLen;omega⟩
set_option maxRecDepth 100000 in
theorem open_cf {v:Value} {d:DataW H} {p:List MemPlace} {r:Reach} {b0:Nat} (hfit:Fits Tryz.prog 27 d) (hv:Value.okWide Tryz.prog w r b0 27 v) (h:DataW.Trod enc Tryz.prog w 0 (fun _=>true) true 27 v d p) :
 ∃ c:CF,v=.agg c.cells.toArray∧CM w c∧Few c:=by
 obtain ⟨cs,rfl,hsz⟩:=okWide_struct Tryz.underlying27 hv
 obtain ⟨fuel,hfu⟩:=h
 simp only [Value.cells] at hfu
 obtain ⟨c,hc,hm,hf⟩:=read_cf hfu hfit
 exact ⟨c,by rw [←hc],hm,hf⟩
set_option maxRecDepth 100000 in
theorem field_bigR {P:Program} {fs:Array Field} {n:Nat} {cs:List Value} {x:DataW H × List MemPlace} {e:TypeId} (he:P.underlying e=some (.struct fs)) (hfit:Fits P e x.1) (h:DataW.trod enc P w 0 (fun _=>true) true n e cs=some x) (j:Nat) {fl:Field}
 (hj:fs[j]? = some fl):∃ m y,DataW.trod enc P w 0 (fun _=>true) true m fl.type ((cs.drop fl.offset).take (P.cellsOf fl.type))=some y∧Fits P fl.type y.1:=by
 obtain ⟨xs,m,_,hx,_,hlen,hf⟩:=DataW.trod_struct he h
 have hjl:=(Array.getElem?_eq_some_iff.1 hj).1
 have hg:=hf j fl hj
 obtain ⟨y,hy⟩:=get_some (l:=xs) (k:=j) (by omega)
 refine ⟨m,y,hg.trans hy,?_⟩
 rw [hx] at hfit
 exact hfit.field he hj (by rw [List.getElem?_map,hy];rfl)
set_option maxRecDepth 100000 in
theorem u8_back {x:Int} (h:0≤x∧x≤255):∃ b:UInt8,Value.int .u8 x=bv b:=by
 refine ⟨UInt8.ofNat x.toNat,?_⟩
 unfold bv
 congr 1
 rw [UInt8.toNat_ofNat_of_lt' (by show x.toNat<256;omega)]
 omega
theorem bytes_flat (l:List UInt8):l.flatMap (fun a=>[bv a])=bcells l:=by
 unfold bcells
 induction l <;> simp_all [List.flatMap_cons]
set_option maxRecDepth 100000 in
theorem read_bytes {n:Nat} {cs:List Value} {x:DataW H × List MemPlace} (hfit:Fits Tryz.prog 44 x.1) (h:DataW.trod enc Tryz.prog w 0 (fun _=>true) true n 44 cs=some x) :
 ∃ (A:Option Addr) (n c:Nat) (l:List UInt8),cs=[.slice A n c]∧l.length=n∧Sl w (fun _=>False) 1 A n (bcells l)∧n≤c∧c≤maxLen:=by
 obtain ⟨A,q,c,l,h1,h2,h3,_,h5,h6,h7⟩:=sl_trodR (f:=fun a=>[bv a]) (G:=fun _=>True) Tryz.underlying44 (by kernel_rfl) (by decide) (fun _=>rfl) hfit (fun n cs x h _=>by
  obtain ⟨a,ha,_,hw⟩:=DataW.trod_int Tryz.underlying5 h
  obtain ⟨b,hb⟩:=u8_back (bounds_u8 hw)
  exact ⟨b,by rw [ha,hb],trivial⟩) h
 rw [bytes_flat] at h3
 exact ⟨A,q,c,l,h1,h2,h3,h5,h6⟩
set_option maxRecDepth 100000 in
theorem read_src {n:Nat} {cs:List Value} {x:DataW H × List MemPlace} (h:DataW.trod enc Tryz.prog w 0 (fun _=>true) true n 129 cs=some x) (hfit:Fits Tryz.prog 129 x.1) :
 ∃ s:SA,cs=s.cells∧Sl w (fun _=>False) 1 s.A s.nd.length (icells s.nd):=by
 obtain ⟨k,hk,_⟩:=field_int Tryz.underlying129 h 0 rfl Tryz.underlying3 (by kernel_rfl)
 obtain ⟨m2,y2,hy2,hf2⟩:=field_atR Tryz.underlying129 hfit h 1 rfl (by kernel_rfl)
 obtain ⟨A,q,c,l,h1,h2,h3,h5,h6,h7⟩:=read_ints hf2 hy2
 obtain ⟨xs,m',_,_,hlen,_⟩:=DataW.trod_struct Tryz.underlying129 h
 have h3':cs.length=2:=by rw [hlen];kernel_rfl
 subst h2
 refine ⟨⟨k,A,c,l⟩,?_,h3⟩
 have g1:=at_of_take h1
 match cs,h3' with
 | [_,_],_=>simp_all [SA.cells]
set_option maxRecDepth 100000 in
theorem read_note {n:Nat} {cs:List Value} {x:DataW H × List MemPlace} (h:DataW.trod enc Tryz.prog w 0 (fun _=>true) true n 46 cs=some x) (hfit:Fits Tryz.prog 46 x.1) :
 ∃ (m:Nt) (A:Option Addr) (c:Nat),cs=[.int .i64 m.k,.int .i64 m.call,.int .i64 m.d,.int .i64 m.c,.int .i64 m.e,.int .i64 m.n,.slice A m.body.length c]∧Sl w (fun _=>False) 1 A m.body.length (bcells m.body):=by
 obtain ⟨k0,g0,_⟩:=field_int Tryz.underlying46 h 0 rfl Tryz.underlying3 (by kernel_rfl)
 obtain ⟨k1,g1,_⟩:=field_int Tryz.underlying46 h 1 rfl Tryz.underlying2 (by kernel_rfl)
 obtain ⟨k2,g2,_⟩:=field_int Tryz.underlying46 h 2 rfl Tryz.underlying3 (by kernel_rfl)
 obtain ⟨k3,g3,_⟩:=field_int Tryz.underlying46 h 3 rfl Tryz.underlying3 (by kernel_rfl)
 obtain ⟨k4,g4,_⟩:=field_int Tryz.underlying46 h 4 rfl Tryz.underlying2 (by kernel_rfl)
 obtain ⟨k5,g5,_⟩:=field_int Tryz.underlying46 h 5 rfl Tryz.underlying3 (by kernel_rfl)
 obtain ⟨m2,y2,hy2,hf2⟩:=field_atR Tryz.underlying46 hfit h 6 rfl (by kernel_rfl)
 obtain ⟨A,q,c,l,h1,h2,h3,h5,h6⟩:=read_bytes hf2 hy2
 obtain ⟨xs,m',_,_,hlen,_⟩:=DataW.trod_struct Tryz.underlying46 h
 have h3':cs.length=7:=by rw [hlen];kernel_rfl
 subst h2
 refine ⟨⟨k0,k1,k2,k3,k4,k5,l⟩,A,c,?_,h3⟩
 have g6:=at_of_take h1
 match cs,h3' with
 | [_,_,_,_,_,_,_],_=>simp_all
theorem mid_at {cs l:List Value} {o n:Nat} (h:(cs.drop o).take n=l) {i:Nat} (hi:i<n):cs[o+i]? = l[i]?:=by
 rw [←h,List.getElem?_take,if_pos hi,List.getElem?_drop]
set_option maxRecDepth 100000 in
set_option maxHeartbeats 4000000 in
theorem read_at {n:Nat} {cs:List Value} {x:DataW H × List MemPlace} (h:DataW.trod enc Tryz.prog w 0 (fun _=>true) true n 63 cs=some x) (hfit:Fits Tryz.prog 63 x.1) :
 ∃ a:AT,cs=a.cells∧ATok w (fun _=>False) a:=by
 obtain ⟨k0,g0,_⟩:=field_int Tryz.underlying63 h 0 rfl Tryz.underlying3 (by kernel_rfl)
 obtain ⟨k1,g1,_⟩:=field_int Tryz.underlying63 h 1 rfl Tryz.underlying3 (by kernel_rfl)
 obtain ⟨m2,y2,hy2,hf2⟩:=field_atR Tryz.underlying63 hfit h 2 rfl (by kernel_rfl)
 obtain ⟨SB,sn,sc,srcs,e2,rfl,hS,hSe,b1,b2,_⟩:=sl_trodR (f:=SA.cells) (k:=2) Tryz.underlying51 (by kernel_rfl) (by decide) (fun _=>rfl) hf2 (fun n cs x h hf=>read_src h hf) hy2
 obtain ⟨k3,g3,_⟩:=field_int Tryz.underlying63 h 3 rfl Tryz.underlying2 (by kernel_rfl)
 obtain ⟨k4,g4,_⟩:=field_int Tryz.underlying63 h 4 rfl Tryz.underlying3 (by kernel_rfl)
 obtain ⟨m5,y5,hy5,hf5⟩:=field_bigR Tryz.underlying63 hfit h 5 rfl
 change DataW.trod enc Tryz.prog w 0 (fun _=>true) true m5 46 ((cs.drop 5).take (Tryz.prog.cellsOf 46))=some y5 at hy5
 rw [show Tryz.prog.cellsOf 46=7 from by kernel_rfl] at hy5
 obtain ⟨nt,NA,nc,e5,hN⟩:=read_note hy5 hf5
 obtain ⟨k6,g6,_⟩:=field_int Tryz.underlying63 h 6 rfl Tryz.underlying3 (by kernel_rfl)
 obtain ⟨k7,g7,_⟩:=field_int Tryz.underlying63 h 7 rfl Tryz.underlying3 (by kernel_rfl)
 obtain ⟨m8,y8,hy8,hf8⟩:=field_atR Tryz.underlying63 hfit h 8 rfl (by kernel_rfl)
 obtain ⟨PA,pn,pc,sp,e8,rfl,hP,_,_⟩:=read_bytes hf8 hy8
 obtain ⟨k9,g9,_⟩:=field_int Tryz.underlying63 h 9 rfl Tryz.underlying2 (by kernel_rfl)
 obtain ⟨xs,m',_,_,hlen',_⟩:=DataW.trod_struct Tryz.underlying63 h
 have hlen:cs.length=16:=by rw [hlen'];kernel_rfl
 have q2:=at_of_take e2
 have q8:=at_of_take e8
 have n5:=mid_at e5 (i:=0) (by omega)
 have n6:=mid_at e5 (i:=1) (by omega)
 have n7:=mid_at e5 (i:=2) (by omega)
 have n8:=mid_at e5 (i:=3) (by omega)
 have n9:=mid_at e5 (i:=4) (by omega)
 have n10:=mid_at e5 (i:=5) (by omega)
 have n11:=mid_at e5 (i:=6) (by omega)
 refine ⟨⟨k0,k1,SB,sc,srcs,k3,k4,nt,NA,nc,k6,k7,PA,pc,sp,k9⟩,?_,⟨hS,fun x hx=>hSe x hx⟩,hN,hP,by simp only;omega⟩
 refine List.ext_getElem? fun i=>?_
 by_cases hi:i<16
 ·obtain rfl | rfl | rfl | rfl | rfl | rfl | rfl | rfl | rfl | rfl | rfl | rfl | rfl | rfl | rfl | rfl:i=0∨i=1∨i=2∨i=3∨i=4∨i=5∨i=6∨i=7∨i=8∨i=9∨i=10∨i=11∨i=12∨i=13∨i=14∨i=15:=by omega
  ·exact g0
  ·exact g1
  ·exact q2
  ·exact g3
  ·exact g4
  ·exact n5
  ·exact n6
  ·exact n7
  ·exact n8
  ·exact n9
  ·exact n10
  ·exact n11
  ·exact g6
  ·exact g7
  ·exact q8
  ·exact g9
 ·rw [List.getElem?_eq_none (by omega),List.getElem?_eq_none (by simp [AT.cells];omega)]
set_option maxRecDepth 100000 in
theorem open_ats {v:Value} {d:DataW H} {p:List MemPlace} {r:Reach} {b0:Nat} (hfit:Fits Tryz.prog 28 d) (hv:Value.okWide Tryz.prog w r b0 28 v) (h:DataW.Trod enc Tryz.prog w 0 (fun _=>true) true 28 v d p) :
 ∃ (B:Option Addr) (cb:Nat) (l:List AT),v=.slice B l.length cb∧ATs w (fun _=>False) B l∧l.length≤maxLen:=by
 obtain ⟨B,m,c,l,h1,h2,h3,h4,h5,h6,_⟩:=open_slR (f:=AT.cells) (k:=16) Tryz.underlying28 (by kernel_rfl) (by decide) (fun _=>rfl) hfit (fun n cs x h hf=>read_at h hf) hv h
 subst h2
 exact ⟨B,c,l,h1,⟨h3,h4⟩,Nat.le_trans h5 h6⟩
set_option maxRecDepth 100000 in
theorem open_note {v:Value} {d:DataW H} {p:List MemPlace} {r:Reach} {b0:Nat} (hfit:Fits Tryz.prog 46 d) (hv:Value.okWide Tryz.prog w r b0 46 v) (h:DataW.Trod enc Tryz.prog w 0 (fun _=>true) true 46 v d p) :
 ∃ (m:Nt) (A:Option Addr) (c:Nat),v=.agg #[.int .i64 m.k,.int .i64 m.call,.int .i64 m.d,.int .i64 m.c,.int .i64 m.e,.int .i64 m.n,.slice A m.body.length c]∧Sl w (fun _=>False) 1 A m.body.length (bcells m.body):=by
 obtain ⟨cs,rfl,hsz⟩:=okWide_struct Tryz.underlying46 hv
 obtain ⟨fuel,hfu⟩:=h
 simp only [Value.cells] at hfu
 obtain ⟨m,A,c,hc,hb⟩:=read_note hfu hfit
 exact ⟨m,A,c,congrArg Value.agg (by rw [←Array.toArray_toList (xs:=cs),hc]),hb⟩
end
end Go.Proofs.YtbjddfiledoaoaaGreat

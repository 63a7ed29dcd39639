import Derived.Test.YtbjddfiledoaoaaGreatWireE
import Derived.Lib.ConvBytes
namespace Go.Proofs.YtbjddfiledoaoaaGreat
open Go.RowKit
theorem Own.lit0 (w:World) (e:TypeId) (size:Nat):Own (w.alloc (.cells #[] e)) w.heap.size e size (.slice (some ⟨w.heap.size,0,none⟩) 0 0) 0 [] :=
 Own.of_blk (Nat.le_refl _) (Blk.made w e #[]) (Nat.le_refl _) (by simp) (by simp) (by simp)
def OwnPost (w:World) (bs:List UInt8) (e:Ending) (w':World):Prop :=
 ∃ A c,e=.returned (.slice A bs.length c)∧Own w' w.heap.size 5 1 (.slice A bs.length c) bs.length (bcells bs)∧Same w w'
def PInt (w:World) (all:List UInt8) (u o:Value) (wr:World):Prop :=
 ∃ (x:Int) (A:Option Addr) (c k:Nat) (bs:List UInt8),u=.int .u64 x∧(0≤x∧x≤18446744073709551615)∧o=.slice A k c∧bs.length=k∧Own wr w.heap.size 5 1 (.slice A k c) k (bcells bs)∧bs++Lib.uvarint x.toNat=all∧Same w wr
set_option maxHeartbeats 2000000 in
theorem pInt_any (w:World) (n:Int) (h0 : -9223372036854775808≤n) (h1:n≤9223372036854775807) :
 Calls Tryz.prog 54 #[.int .i64 n] w (OwnPost w (encI n)):=by
 have hle:(encI n).length≤10:=encI_le ⟨h0,h1⟩
 have hst:∀ z:Int,z=((Lib.zigzag n:Nat):Int)→PInt w (encI n) (.int .u64 z) (.slice (some ⟨w.heap.size,0,none⟩) 0 0) (w.alloc (.cells #[] 5)):=fun z hz=>⟨z,_,0,0,[],rfl,by have:=zigzag_ok (n:=n) ⟨h0,h1⟩;omega,rfl,rfl,Own.lit0 w 5 1,by rw [hz];rfl,(Keep.refl _ w).alloc _⟩
 have HST:=hid hst
 have hz1:0≤n→n * 2=((Lib.zigzag n:Nat):Int):=fun h=>(Lib.zigzag_nonneg h).symm
 have hz2:n<0→-(n+1) * 2+1=((Lib.zigzag n:Nat):Int):=fun h=>by unfold Lib.zigzag;rw [if_neg (by omega)];omega
 have HZ1:=hid hz1
 have HZ2:=hid hz2
 generalize encI n=all at *
 clear hst hz1 hz2
 by_cases hs:0≤n
 all_goals
  go_enter Tryz.func54,Tryz.ntmps54
  go_wp2
  go_loopw [3,4] (fun u o wr=>PInt w all u o wr) (fun u _ _=>(RowKit.intOf u).toNat)
  case atStart =>
   refine HST.out _ ?_
   first | (with_reducible exact HZ1.out hs) | (with_reducible exact HZ2.out (by omega))
  case round =>
   obtain ⟨x,A1,c1,k1,bs1,rfl,⟨hx0,hx1⟩,rfl,hk1,hO,hall,hK⟩:=hrel
   have hb1:k1≤10:=by rw [←hall] at hle;simp at hle;omega
   have HK:=hid hK
   by_cases hx2:128≤x
   ·have HO:=hid (World.ownsRow.alloc hO (.cells #[.int .u8 (x % 128+128)] 5))
    have HN:=hid (show bs1++[(x.toNat % 128+128).toUInt8]++Lib.uvarint (x / 128).toNat=all by rw [←hall,Lib.uvarint_big (x:=x.toNat) (by omega),show (x / 128).toNat=x.toNat / 128 by omega];simp)
    have HB:=hid (show bcells bs1++[.int .u8 (x % 128+128)]=bcells (bs1++[(x.toNat % 128+128).toUInt8]) by
     rw [bcells_app];congr 1;simp only [bcells,List.map_cons,List.map_nil,bv,u8_small (show x.toNat % 128+128<256 by omega)];congr 2;omega)
    have HK1:=hid hk1
    have hsz:=hK.size
    clear hO hall hK hk1
    go_wp2_with (
     at_builtin
     refine EBy.law2 (.tmp 19) (.tmp 24) (.slice A1 k1 c1) (some ⟨wr.heap.size,0,none⟩) 1 1 rfl rfl rfl rfl w.heap.size k1 (bcells bs1) [.int .u8 (x % 128+128)] (k1+1) _ rfl rfl HO.out rfl (fun _=>⟨_,rfl,src_new rfl⟩) (by intro u hu;simp at hu;subst hu;rfl) (by omega) (by unfold maxLen;omega) (by simp;omega) ?_
     intro A' c' w2 ho hg hw
     have HKN:=hid ((HK.out.alloc (.cells #[.int .u8 (x % 128+128)] 5)).app HO.out hg (fun g h1 h2=>by omega))
     rw [HB.out] at ho
     have HON:=hid ho
     clear ho hg hw)
    go_roundw
    case rel=>exact ⟨x / 128,A',c',k1+1,_,rfl,by omega,rfl,by simp [HK1.out],HON.out,HN.out,HKN.out⟩
    case measure=>simp [RowKit.intOf];omega
   ·have hxm:x % 256=x:=by omega
    have HO:=hid (World.ownsRow.alloc hO (.cells #[.int .u8 x] 5))
    have HN:=hid (show bs1++[x.toNat.toUInt8]=all by rw [←hall,Lib.uvarint_small (by omega)])
    have HB:=hid (show bcells bs1++[.int .u8 x]=bcells (bs1++[x.toNat.toUInt8]) by
     rw [bcells_app];congr 1;simp only [bcells,List.map_cons,List.map_nil,bv,u8_small (show x.toNat<256 by omega)];congr 2;omega)
    have HK1:=hid hk1
    have hsz:=hK.size
    clear hO hall hK hk1
    go_wp2_with (
     at_builtin
     refine EBy.law2 (.tmp 28) (.tmp 31) (.slice A1 k1 c1) (some ⟨wr.heap.size,0,none⟩) 1 1 rfl rfl rfl rfl w.heap.size k1 (bcells bs1) [.int .u8 x] (k1+1) _ rfl rfl HO.out rfl (fun _=>⟨_,rfl,src_new rfl⟩) (by intro u hu;simp at hu;subst hu;rfl) (by omega) (by unfold maxLen;omega) (by simp;omega) ?_
     intro A' c' w2 ho hg hw
     have HKN:=hid ((HK.out.alloc (.cells #[.int .u8 x] 5)).app HO.out hg (fun g h1 h2=>by omega))
     rw [HB.out] at ho
     have HON:=hid ho
     clear ho hg hw)
    go_ret
    have hlen:all.length=k1+1:=by rw [←HN.out];simp [HK1.out]
    refine ⟨A',c',by rw [hlen];rfl,?_,HKN.out⟩
    rw [hlen,←HN.out]
    exact HON.out
structure Tm where
 k:Int
 n:Int
 b:Bool
 s:ByteArray
 A:Option Addr
 m:Nat
 c:Nat
 l:List Int
def Tm.cells (x:Tm):List Value:=[.int .i64 x.k,.int .i64 x.n,.bool x.b,.string x.s,.slice x.A x.m x.c]
def Tm.pt (x:Tm):Tg:=⟨x.k,x.n,x.b,x.s.data.toList,x.l⟩
structure TmOk (w:World) (Av:Nat→Prop) (x:Tm):Prop where
 sl:Sl w Av 1 x.A x.m (x.l.map (.int .i64))
theorem TmOk.len {w:World} {Av:Nat→Prop} {x:Tm} (h:TmOk w Av x):x.l.length=x.m:=by have:=h.sl.len;simpa using this
theorem TmOk.keep {S Av:Nat→Prop} {w w':World} {x:Tm} (h:TmOk w Av x) (hk:Keep S w w') (hS:∀ i,i<w.heap.size→S i→Av i):TmOk w' Av x:=⟨h.sl.keep hk hS⟩
theorem TmOk.same {Av:Nat→Prop} {w w':World} {x:Tm} (h:TmOk w Av x) (hk:Same w w'):TmOk w' Av x:=⟨h.sl.same hk⟩
theorem TmOk.wide {Av Av':Nat→Prop} {w:World} {x:Tm} (h:TmOk w Av x) (hS:∀ i,i<w.heap.size→Av' i→Av i):TmOk w Av' x:=⟨h.sl.wide hS⟩
theorem Tm.facts {w1:World} {g:Nat} {x:Tm} (h:Blk w1 g 171 x.cells.toArray):w1.cell? ⟨g,0,none⟩=some (.int .i64 x.k)∧w1.cell? ⟨g,1,none⟩=some (.int .i64 x.n)∧w1.cell? ⟨g,2,none⟩=some (.bool x.b) ∧
 w1.cell? ⟨g,3,none⟩=some (.string x.s)∧w1.cell? ⟨g,4,none⟩=some (.slice x.A x.m x.c):=⟨h.at_ 0,h.at_ 1,h.at_ 2,h.at_ 3,h.at_ 4⟩
section
variable (w:World) (rb:Nat) (Av:Nat→Prop) (A:Option Addr) (n c:Nat)
end
section
variable (w:World) (wb:Nat) (r:Option Nat) (A:Option Addr) (c:Nat) (bs:List UInt8) (h:Wr w wb r A c bs) (hn:bs.length≤100000000) (x:Tm) (hx:TmOk w (fun i=>i=wb∨some i=r) x) (hok:OkT x.pt)
include h hn hx hok
end
def tFlat (xs:List Tm):List Value:=xs.flatMap Tm.cells
def putAll (l:List Tg):List UInt8:=l.flatMap putT
theorem putAll_snoc (l:List Tg) (t:Tg):putAll (l++[t])=putAll l++putT t:=by simp [putAll]
structure Ts (w:World) (Av:Nat→Prop) (B:Option Addr) (m:Nat) (xs:List Tm):Prop where
 sl:Sl w Av 5 B m (tFlat xs)
 el:∀ x∈xs,TmOk w Av x
 ok:∀ x∈xs,OkT x.pt
theorem Ts.len {w:World} {Av:Nat→Prop} {B:Option Addr} {m:Nat} {xs:List Tm} (h:Ts w Av B m xs):xs.length=m:=by
 have:=h.sl.len;rw [tFlat,flat_len Tm.cells 5 (fun _=>rfl)] at this;omega
theorem Ts.keep {S Av:Nat→Prop} {w w':World} {B:Option Addr} {m:Nat} {xs:List Tm} (h:Ts w Av B m xs) (hk:Keep S w w') (hS:∀ i,i<w.heap.size→S i→Av i):Ts w' Av B m xs :=
 ⟨h.sl.keep hk hS,fun x hx=>(h.el x hx).keep hk hS,h.ok⟩
theorem Ts.same {Av:Nat→Prop} {w w':World} {B:Option Addr} {m:Nat} {xs:List Tm} (h:Ts w Av B m xs) (hk:Same w w'):Ts w' Av B m xs:=h.keep hk (fun _ _ f=>f.elim)
theorem Ts.wide {Av Av':Nat→Prop} {w:World} {B:Option Addr} {m:Nat} {xs:List Tm} (h:Ts w Av B m xs) (hS:∀ i,i<w.heap.size→Av' i→Av i):Ts w Av' B m xs :=
 ⟨h.sl.wide hS,fun x hx=>(h.el x hx).wide hS,h.ok⟩
theorem TmOk.old {w:World} {Av:Nat→Prop} {x:Tm} (h:TmOk w Av x):TmOk w (fun i=>w.heap.size≤i) x:=⟨h.sl.old⟩
theorem Ts.old {w:World} {Av:Nat→Prop} {B:Option Addr} {m:Nat} {xs:List Tm} (h:Ts w Av B m xs):Ts w (fun i=>w.heap.size≤i) B m xs:=⟨h.sl.old,fun x hx=>(h.el x hx).old,h.ok⟩
theorem tFlat_get (l:List Tm) (i j:Nat) (hj:j<5):(tFlat l)[i * 5+j]? = (l[i]?).bind (fun s=>s.cells[j]?):=flat_get Tm.cells 5 (fun _=>rfl) l i j hj
theorem Ts.at5 {w:World} {Av:Nat→Prop} {B:Option Addr} {m:Nat} {xs:List Tm} (h:Ts w Av B m xs) {k:Nat} {x:Tm} (hx:xs[k]? = some x):∃ b off,B=some ⟨b,off,none⟩∧b<w.heap.size ∧
 w.cell? ⟨b,off+k * 5,none⟩=some (.int .i64 x.k)∧w.cell? ⟨b,off+k * 5+1,none⟩=some (.int .i64 x.n)∧w.cell? ⟨b,off+k * 5+2,none⟩=some (.bool x.b)∧w.cell? ⟨b,off+k * 5+3,none⟩=some (.string x.s)∧w.cell? ⟨b,off+k * 5+4,none⟩=some (.slice x.A x.m x.c):=by
 have hk:=(List.getElem?_eq_some_iff.1 hx).1
 obtain ⟨b,off,e,hb,_,hr⟩:=h.sl.at_ (by have:=h.len;omega)
 have g:=fun j (hj:j<5) u (hu:x.cells[j]? = some u)=>hr (k * 5+j) u (by rw [tFlat_get xs k j hj,hx];exact hu)
 refine ⟨b,off,e,hb,?_,?_,?_,?_,?_⟩
 ·exact g 0 (by omega) _ rfl
 ·exact g 1 (by omega) _ rfl
 ·exact g 2 (by omega) _ rfl
 ·exact g 3 (by omega) _ rfl
 ·exact g 4 (by omega) _ rfl
theorem Elem.stepStr {P:Program} {t e u:TypeId} (E:Elem P t e 1 1 (.int .u8 0)) (hu:P.underlying u=some .string) {ops:Array Oper} {o:Oper} {a:Act} {w:World} {K:Act→World→Prop} {Q:Exit→Act→World→Prop} {F:Prop}
 (hg:o.guard=none) (s x:Operand) (hop:o.op=Op.call { callee:=Callee.builtin Builtin.append,args:=#[s,x],argTypes:=#[t,u] })
 (v:Value) (d:ByteArray) (hs:a.eval s=v) (hx:a.eval x=.string d)
 (base n:Nat) (xs:List Value) (k:Nat) (ys:List Value) (hk:n+d.size=k) (hys:xs++bcells d.data.toList=ys) (hown:Own w base e 1 v n xs)
 (hb:k≤140737488355328) (h63:k≤maxLen) (hbase:base≤w.heap.size)
 (hK:∀ A' c' w',Own w' base e 1 (.slice A' k c') k ys→w.grownBy w' v.ownBlock→(A'.map (·.block)=v.ownBlock∨A'.map (·.block)=some w.heap.size)→K (a.put o.dst (.slice A' k c')) w') :
 if Region.wanted o (yielded ops a.tmps)=true then Oper.wp P o a w K Q else F:=by
 subst hk hys
 have hw:Region.wanted o (yielded ops a.tmps)=true:=by simp [Region.wanted,hg]
 rw [if_pos hw]
 obtain ⟨i,hi,hz,hsz,hby⟩:=info_parts E.info
 obtain ⟨v',w',hr,h2,h3,_⟩:=Lib.run_append_own_string (P:=P) w base t u o.type e i E.under hu hi hz hsz hby v n xs hown d h63 hb hbase
 have hwh:=append_str_where E hu w base o.type v n xs hown d hb h63 hr
 unfold Oper.wp execOp
 simp only [hop,resolve,invoke,builtin,Sem.run_bind,Sem.run_pure,Result.andThen_ok,List.map_toArray,List.map_cons,List.map_nil,hs,hx,hr]
 obtain ⟨A',c',rfl⟩:=Own.shape h2
 refine hK A' c' w' h2 h3 ?_
 cases A' <;> simpa [Value.ownBlock] using hwh
theorem OwnPost.of {w w1:World} {bs:List UInt8} {e:Ending} {w':World} (hk:Same w w1) (h:OwnPost w1 bs e w'):OwnPost w bs e w':=by
 obtain ⟨A,c,h1,h2,h3⟩:=h
 exact ⟨A,c,h1,h2.rebase (fun g hg=>Nat.le_trans hk.size (h2.block g hg)),hk.then h3⟩
def PutL (w1:World) (base:Nat) (l:List Int) (k:Nat) (o:Value) (wr:World):Prop :=
 ∃ (A:Option Addr) (c m:Nat),o=.slice A m c∧(encI (l.length:Int)++encIs (l.take k)).length=m∧Own wr base 5 1 (.slice A m c) m (bcells (encI (l.length:Int)++encIs (l.take k)))∧Same w1 wr
section
variable (w:World) (Av:Nat→Prop) (x:Tm) (hx:TmOk w Av x) (hok:OkT x.pt)
include hx hok
set_option maxRecDepth 100000 in
set_option maxHeartbeats 4000000 in
theorem put_any:Calls Tryz.prog 88 #[.agg x.cells.toArray] w (OwnPost w (putT x.pt)):=by
 have hk0:=hok.k0
 have hk4:=hok.k4
 have hnn:=hok.n
 have hd:=hok.d
 have hl:=hok.l
 have he:=hok.e
 have hbl:=hx.len
 have hka:Same w (w.alloc (.cells x.cells.toArray 171)):=(Keep.refl _ w).alloc _
 have HBX:=hid (Blk.made w 171 x.cells.toArray)
 have HX:=hid (hx.same hka)
 have HK:=hid hka
 obtain ⟨k,n,b,s,B,m,d,l⟩:=x
 simp only [Tm.pt] at hk0 hk4 hnn hd hl he hbl
 have hsz:s.size≤1000000:=by have:s.data.toList.length=s.size:=Array.length_toList;omega
 have HE:=hid he
 have HBL:=hid hbl
 have hm:m≤1000000:=by omega
 obtain ⟨hn0,hn1⟩:=hnn
 clear hx hok hka he hd hbl
 simp only [Tm.cells] at HX HK HBX ⊢
 have hk:k=0∨k=1∨(k=2∨k=3)∨k=4:=by omega
 rcases hk with rfl | rfl | hk | rfl
 ·rw [show putT (Tm.pt ⟨0,n,b,s,B,m,d,l⟩)=encI n by simp [putT,Tm.pt]]
  go_enter Tryz.func88,Tryz.ntmps88
  go_wp2_with fail
  refine (pInt_any _ n hn0 hn1).mono ?_
  rintro e w2 ⟨A2,c2,rfl,g1,g2⟩
  go_wp2
  go_ret
  exact OwnPost.of HK.out ⟨A2,c2,rfl,g1,g2⟩
 ·rw [show putT (Tm.pt ⟨1,n,b,s,B,m,d,l⟩)=encB b by simp [putT,Tm.pt]]
  cases b
  all_goals
   go_enter Tryz.func88,Tryz.ntmps88
   go_wp2
   go_ret
   refine OwnPost.of HK.out ⟨_,1,rfl,?_,(Keep.refl _ _).alloc _⟩
   exact Own.of_blk (by simp) (by rw [←World.size_alloc (w:=w)];exact Blk.made _ _ _) (Nat.le_refl _) (by decide) rfl rfl
 ·rw [show putT (Tm.pt ⟨k,n,b,s,B,m,d,l⟩)=encD s.data.toList by rcases hk with rfl | rfl <;> simp [putT,Tm.pt]]
  have hsl:s.data.toList.length=s.size:=Array.length_toList
  have hie:=encI_le (n:=(s.size:Int)) ⟨by omega,by omega⟩
  have HEq:=hid (show encD s.data.toList=encI (s.size:Int)++s.data.toList by rw [encD,hsl])
  rw [HEq.out]
  have hkd:Same w (w.alloc (.cells #[.int .i64 k,.int .i64 n,.bool b,.string s,.slice B m d] 171)).drew:=HK.out.drew
  have HKD:=hid hkd
  have HC:=hid (pInt_any (w.alloc (.cells #[.int .i64 k,.int .i64 n,.bool b,.string s,.slice B m d] 171)).drew (s.size:Int) (by omega) (by omega))
  have hb0:=HBX.out.drew
  have q0:(w.alloc (.cells #[.int .i64 k,.int .i64 n,.bool b,.string s,.slice B m d] 171)).drew.cell? ⟨w.heap.size,3,none⟩=some (.string s):=hb0.at_ 3
  have hs0:=hid q0
  have HB0:=hid hb0
  have HSL:=hid hsl
  generalize encI (s.size:Int)=ei at *
  clear hkd hb0 hsl HEq
  generalize heil:ei.length=eil at *
  have HEIL:=hid heil
  clear heil q0
  rcases hk with rfl | rfl
  all_goals
   go_enter Tryz.func88,Tryz.ntmps88
   go_wp2
   go_region_held3 (fun W=>W.cell? ⟨w.heap.size,3,none⟩=some (.string s))
    (first | exact hs0.out | exact hs2.out | exact hs3.out | go_keep)
    (first
      | (go_at_call 54;(with_reducible refine HC.out.mono ?_);rintro e w2 ⟨A2,c2,rfl,g1,g2⟩
         rw [HEIL.out] at g1 ⊢
         have HO2:=hid g1
         have HG2:=hid g2
         have hs2:Hid (w2.cell? ⟨w.heap.size,3,none⟩=some (.string s)):=hid ((HB0.out.keep g2 (fun f=>f)).at_ 3)
         have HB2:=hid (HB0.out.keep g2 (fun f=>f))
         have hz2:=HG2.out.size
         clear g1 g2)
      | (refine EBy.stepStr u_str rfl (.tmp 24) (.tmp 26) rfl (.slice A2 eil c2) s rfl rfl _ eil (bcells ei) (eil+s.size) _ rfl rfl HO2.out (by omega) (by unfold maxLen;omega) hz2 ?_
         intro A' c' w3 ho hg hw
         have hkk:=HG2.out.app HO2.out hg (fun g h1 h2=>by omega)
         have HO3:=hid ho
         have HG3:=hid hkk
         have hs3:Hid (w3.cell? ⟨w.heap.size,3,none⟩=some (.string s)):=hid ((HB0.out.keep hkk (fun f=>f)).at_ 3)
         clear ho hg hw hkk))
   all_goals
    go_wp2
    go_ret
    have hlen:(ei++s.data.toList).length=eil+s.size:=by rw [List.length_append,HEIL.out,HSL.out]
    refine OwnPost.of HKD.out ⟨A',c',by rw [hlen];rfl,?_,HG3.out⟩
    rw [hlen,bcells_app]
    exact HO3.out
 ·rw [show putT (Tm.pt ⟨4,n,b,s,B,m,d,l⟩)=encI (l.length:Int)++encIs l by simp [putT,Tm.pt,encL]]
  have hie:=encI_le (n:=(l.length:Int)) ⟨by omega,by omega⟩
  have HEL:=hid (fun k=>encIs_le (l.take k) (fun y hy=>HE.out y (List.mem_of_mem_take hy)))
  go_enter Tryz.func88,Tryz.ntmps88
  go_wp2_with fail
  refine (pInt_any _ (m:Int) (by omega) (by omega)).mono ?_
  rintro e w2 ⟨A2,c2,rfl,g1,g2⟩
  have HI:Hid (PutL (w.alloc (.cells #[.int .i64 4,.int .i64 n,.bool b,.string s,.slice B m d] 171)) (w.heap.size+1) l 0 (.slice A2 (encI (m:Int)).length c2) w2):=hid ⟨A2,c2,_,rfl,by simp [encIs,HBL.out],by simpa [encIs,HBL.out] using g1,g2⟩
  generalize (encI (m:Int)).length=mm at *
  clear g1 g2
  go_wp2
  go_loopw [3,4] (fun o i wr=>∃ k:Nat,k≤m∧i=.int .i64 k∧PutL (w.alloc (.cells #[.int .i64 4,.int .i64 n,.bool b,.string s,.slice B m d] 171)) (w.heap.size+1) l k o wr) (fun _ i _=>m - (RowKit.intOf i).toNat)
  case atStart=>exact ⟨0,by omega,rfl,HI.out⟩
  case round =>
   obtain ⟨k,hkm,rfl,A3,c3,m3,rfl,hl3,hO,hK⟩:=hrel
   have hbx:=HBX.out.keep hK (fun f=>f)
   have x4:wr.cell? ⟨w.heap.size,4,none⟩=some (.slice B m d):=hbx.at_ 4
   have hzr:=hbx.lt
   have HL3:=hid hl3
   have HO:=hid hO
   have HK3:=hid hK
   have hm3:m3≤10000010:=by have:=HEL.out k;simp at hl3 this;have:=HBL.out;omega
   by_cases hlt:k<m
   ·obtain ⟨y,hy⟩:=get_some (l:=l) (k:=k) (by have:=HBL.out;omega)
    obtain ⟨bb,off,rfl,hb,_,hr⟩:=HX.out.sl.at_ (show 0<m by omega)
    have q0:wr.cell? ⟨bb,off+k,none⟩=some (.int .i64 y):=(hK.cell (p:=⟨bb,off+k,none⟩) hb (fun f=>f)).trans (hr k _ (by simp [hy]))
    have hyo:=HE.out y (List.mem_of_getElem? hy)
    obtain ⟨hy0,hy1⟩:=hyo
    have HN:=hid (show encI (l.length:Int)++encIs (l.take (k+1))=encI (l.length:Int)++encIs (l.take k)++encI y by rw [take_snoc hy,encIs_snoc];simp)
    have hye:=encI_le (n:=y) ⟨hy0,hy1⟩
    clear hbx hl3 hO hK hr hy
    go_wp2_with fail
    refine (pInt_any wr y hy0 hy1).mono ?_
    rintro e w4 ⟨A4,c4,rfl,g1,g2⟩
    have HO4:=hid (HO.out.keep g2 (fun _ _ _ f=>f))
    have HSR:=hid ((g1.sl (Av:=fun _=>False) (fun _ _ f=>f)).src (Keep.refl _ w4))
    have HK4:=hid (HK3.out.then g2)
    have hz4:=g2.size
    generalize hyl:(encI y).length=yl at *
    have HYL:=hid hyl
    clear g1 g2 hyl
    go_wp2_with (
     at_builtin
     refine EBy.law2 (.tmp 41) (.tmp 47) (.slice A3 m3 c3) A4 yl c4 rfl rfl rfl rfl (w.heap.size+1) m3 _ (bcells (encI y)) (m3+yl) _ rfl rfl HO4.out (by rw [bcells_len,HYL.out];omega) HSR.out (bcells_one _) (by omega) (by unfold maxLen;omega) (by omega) ?_
     intro A' c' w5 ho hg hw
     have hkk:=HK4.out.app HO4.out hg (fun g h1 h2=>by simp at h2;omega)
     have HO5:=hid ho
     have HK5:=hid hkk
     clear ho hg hw hkk)
    go_roundw
    case rel=>exact ⟨k+1,by omega,by go_num,A',c',m3+yl,rfl,by rw [HN.out,List.length_append,HL3.out,HYL.out],by rw [HN.out,bcells_app];exact HO5.out,HK5.out⟩
    case measure=>simp [RowKit.intOf];omega
   ·have e1:l.take k=l:=List.take_of_length_le (by have:=HBL.out;omega)
    rw [e1] at hO hl3
    have HO:=hid hO
    have HL3:=hid hl3
    have HK3:=hid hK
    clear hbx hl3 hO hK e1
    go_wp2
    go_ret
    refine OwnPost.of (HK.out) ⟨A3,c3,by rw [HL3.out];rfl,?_,HK3.out⟩
    rw [HL3.out,World.size_alloc]
    exact HO.out
end
def PAllI (w1:World) (base:Nat) (l:List Tg) (k:Nat) (o:Value) (wr:World):Prop :=
 ∃ (A:Option Addr) (c m:Nat),o=.slice A m c∧(putAll (l.take k)).length=m∧Own wr base 5 1 (.slice A m c) m (bcells (putAll (l.take k)))∧Same w1 wr
set_option maxHeartbeats 4000000 in
theorem pall_any (w:World) (Av:Nat→Prop) (B:Option Addr) (m d:Nat) (xs:List Tm) (h:Ts w Av B m xs) (hm:m≤1000) (hall:(putAll (xs.map Tm.pt)).length≤10000000) :
 Calls Tryz.prog 87 #[.slice B m d] w (OwnPost w (putAll (xs.map Tm.pt))):=by
 have H:=hid h.old
 have hlen:=hid h.len
 have HI:Hid (PAllI w w.heap.size (xs.map Tm.pt) 0 (.slice (some ⟨w.heap.size,0,none⟩) 0 0) (w.alloc (.cells #[] 5))):=hid
  ⟨_,0,0,rfl,by simp [putAll],by simpa [putAll,bcells] using Own.lit0 w 5 1,(Keep.refl _ w).alloc _⟩
 have hbound:∀ k,(putAll ((xs.map Tm.pt).take k)).length≤10000000:=fun k=>by
  refine Nat.le_trans ?_ hall
  conv=>rhs;rw [←List.take_append_drop k (xs.map Tm.pt),putAll,List.flatMap_append]
  simp [putAll]
 have HBD:=hid hbound
 clear h hall hbound
 go_enter Tryz.func87,Tryz.ntmps87
 go_wp2
 go_loopw [3,4] (fun o i wr=>∃ k:Nat,k≤m∧i=.int .i64 k∧PAllI w w.heap.size (xs.map Tm.pt) k o wr) (fun _ i _=>m - (RowKit.intOf i).toNat)
 case atStart=>exact ⟨0,by omega,rfl,HI.out⟩
 case round =>
  obtain ⟨k,hkm,rfl,A3,c3,m3,rfl,hl3,hO,hK⟩:=hrel
  have HL3:=hid hl3
  have HO:=hid hO
  have HK3:=hid hK
  have hm3:m3≤10000000:=by have:=HBD.out k;omega
  by_cases hlt:k<m
  ·obtain ⟨x,hx⟩:=get_some (l:=xs) (k:=k) (by have:=hlen.out;omega)
   have hT:=H.out.same hK
   obtain ⟨b,off,rfl,hb,q0,q1,q2,q3,q4⟩:=hT.at5 hx
   have hxm:=List.mem_of_getElem? hx
   have hpx:(xs.map Tm.pt)[k]? = some x.pt:=by simp [hx]
   have HC:=hid (put_any wr _ x (hT.el x hxm) (hT.ok x hxm))
   have HN:=hid (show putAll ((xs.map Tm.pt).take (k+1))=putAll ((xs.map Tm.pt).take k)++putT x.pt by rw [take_snoc hpx];exact putAll_snoc _ _)
   have hpl:m3+(putT x.pt).length≤10000000:=by
    have:=HBD.out (k+1)
    rw [HN.out,List.length_append] at this;omega
   clear hx hT hxm hpx hl3 hO hK
   generalize x.pt=t at *
   obtain ⟨kk,n,bo,st,C,cm,cc,l⟩:=x
   simp only [Tm.cells] at q0 q1 q2 q3 q4 HC
   go_wp2_with fail
   refine HC.out.mono ?_
   rintro e w4 ⟨A4,c4,rfl,g1,g2⟩
   have HO4:=hid (HO.out.keep g2 (fun _ _ _ f=>f))
   have HSR:=hid ((g1.sl (Av:=fun _=>False) (fun _ _ f=>f)).src (Keep.refl _ w4))
   have HK4:=hid (HK3.out.then g2)
   have hz4:=HK4.out.size
   generalize hyl:(putT t).length=yl at *
   have HYL:=hid hyl
   clear g1 g2 hyl HC
   go_wp2_with (
    at_builtin
    refine EBy.law2 (.tmp 12) (.tmp 17) (.slice A3 m3 c3) A4 yl c4 rfl rfl rfl rfl w.heap.size m3 _ (bcells (putT t)) (m3+yl) _ rfl rfl HO4.out (by rw [bcells_len,HYL.out];omega) HSR.out (bcells_one _) (by omega) (by unfold maxLen;omega) hz4 ?_
    intro A' c' w5 ho hg hw
    have hkk:=HK4.out.app HO4.out hg (fun g h1 h2=>by omega)
    have HO5:=hid ho
    have HK5:=hid hkk
    clear ho hg hw hkk)
   go_roundw
   case rel=>exact ⟨k+1,by omega,by go_num,A',c',m3+yl,rfl,by rw [HN.out,List.length_append,HL3.out,HYL.out],by rw [HN.out,bcells_app];exact HO5.out,HK5.out⟩
   case measure=>simp [RowKit.intOf];omega
  ·have e1:(xs.map Tm.pt).take k=xs.map Tm.pt:=List.take_of_length_le (by have:=hlen.out;simp;omega)
   rw [e1] at hO hl3
   have HO:=hid hO
   have HL3:=hid hl3
   clear hl3 hO hK e1
   go_wp2
   go_ret
   refine ⟨A3,c3,by rw [HL3.out];rfl,?_,HK3.out⟩
   rw [HL3.out]
   exact HO.out
end Go.Proofs.YtbjddfiledoaoaaGreat

import Derived.Test.YtbjddfiledoaoaaGreatGen
import Derived.PlainAid
import Derived.Test.YtbjddfiledoaoaaGreatMore
import Derived.Deep.RegionHeld3
import Derived.Deep.Cut
import Derived.Laws.EntriesVeiled
import Derived.Great.Walk
namespace Go.Proofs.YtbjddfiledoaoaaGreat
open Go.RowKit Go.PlainAid
structure E3 where
 a:Int
 b:Int
 c:Int
deriving DecidableEq
def E3.cells (e:E3):List Value:=[.int .i64 e.a,.int .i64 e.b,.int .i64 e.c]
structure PL where
 code:ByteArray
 urg:Int
 K:Option Addr
 cc:Nat
 kinds:List Int
def PL.cells (p:PL):List Value:=[.string p.code,.int .i64 p.urg,.slice p.K p.kinds.length p.cc]
structure CF where
 cen:Int
 D:Option Addr
 cD:Nat
 dis:List Int
 E:Option Addr
 cE:Nat
 edg:List E3
 U:Option Addr
 cU:Nat
 uni:List E3
 P:Option Addr
 cP:Nat
 pla:List PL
 h0:Int
 h1:Int
 h2:Int
 h3:Int
 h4:Int
 h5:Int
 h6:Int
 h7:Int
 h8:Int
 h9:Int
def CF.cells (c:CF):List Value:=[.int .i64 c.cen,.slice c.D c.dis.length c.cD,.slice c.E c.edg.length c.cE,.slice c.U c.uni.length c.cU,.slice c.P c.pla.length c.cP,
 .int .i64 c.h0,.int .i64 c.h1,.int .i64 c.h2,.int .i64 c.h3,.int .i64 c.h4,.int .i64 c.h5,.int .i64 c.h6,.int .i64 c.h7,.int .i64 c.h8,.int .i64 c.h9]
def icellsC (l:List Int):List Value:=l.map (.int .i64)
def e3cells (l:List E3):List Value:=l.flatMap E3.cells
def plcells (l:List PL):List Value:=l.flatMap PL.cells
structure CM (w:World) (c:CF):Prop where
 dis:Sl w (fun _=>False) 1 c.D c.dis.length (icellsC c.dis)
 edg:Sl w (fun _=>False) 3 c.E c.edg.length (e3cells c.edg)
 uni:Sl w (fun _=>False) 3 c.U c.uni.length (e3cells c.uni)
 pla:Sl w (fun _=>False) 3 c.P c.pla.length (plcells c.pla)
 kinds:∀ p∈c.pla,Sl w (fun _=>False) 1 p.K p.kinds.length (icellsC p.kinds)∧p.kinds.length≤maxLen∧p.code.size≤maxLen
 lD:c.dis.length≤maxLen
 lE:c.edg.length≤maxLen
 lU:c.uni.length≤maxLen
 lP:c.pla.length≤maxLen
 capP:c.pla.length≤c.cP
theorem CM.same {w w':World} {c:CF} (h:CM w c) (hk:Same w w'):CM w' c :=
 ⟨h.dis.same hk,h.edg.same hk,h.uni.same hk,h.pla.same hk,fun p hp=>⟨(h.kinds p hp).1.same hk,(h.kinds p hp).2⟩,h.lD,h.lE,h.lU,h.lP,h.capP⟩
def inB (i n:Int):Bool:=decide (0≤i) && decide (i<n)
def kindB (k:Int):Bool:=decide (1≤k) && decide (k≤4)
def chB (s:ByteArray) (k:Nat):Bool:=decide (33≤bt s k) && decide (bt s k≤126)
def codeB (s:ByteArray):Bool:=decide (1≤s.size) && decide (s.size≤40) && (List.range s.size).all (chB s)
def edgeB (n:Int) (e:E3):Bool:=inB e.a n && inB e.b n && (decide (1≤e.c) && decide (e.c≤1048576) || e.c == 4611686018427387904)
def unitB (cen n:Int) (u:E3):Bool:=kindB u.a && inB u.b cen && inB u.c n
def planB (p:PL):Bool:=p.kinds.all kindB && codeB p.code && (decide (1≤p.urg) && decide (p.urg≤5)) && (decide (1≤p.kinds.length) && decide (p.kinds.length≤8))
def diffB (p q:PL):Bool:=!(q.code.toList == p.code.toList && q.urg == p.urg)
def upB (l:List PL) (k:Nat):Bool:=match l[k]? with
 | some p=>planB p && (l.take k).all (diffB p)
 | none=>true
def plansB (l:List PL):Bool:=decide (l.length≤64) && (List.range l.length).all (upB l)
def rngB (lo hi x:Int):Bool:=decide (lo≤x) && decide (x≤hi)
def parsL (c:CF):List (Int × Int × Int):=[(1,1048576,c.h0),(1,1048576,c.h1),(1,1048576,c.h2),(1,1048576,c.h3),(1,1048576,c.h4),(1,1048576,c.h5),(0,1099511627776,c.h6),(0,1099511627776,c.h7),(0,256,c.h8),(1,4096,c.h9)]
def parB (c:CF):Bool:=(parsL c).all (fun x=>rngB x.1 x.2.1 x.2.2)
def edgesB (c:CF):Bool:=c.edg.all (edgeB c.dis.length) && decide (c.edg.length≤16384)
def unitsB (c:CF):Bool:=c.uni.all (unitB c.cen c.dis.length) && decide (c.uni.length≤256)
def vnum (c:CF):Int :=
 if (decide (1≤c.cen) && decide (c.cen≤9))=false then 1
 else if (decide (1≤c.dis.length) && decide (c.dis.length≤4096))=false then 2
 else if c.dis.all (fun d=>inB d c.cen)=false then 3
 else if edgesB c=false then 4
 else if unitsB c=false then 5
 else if plansB c.pla=false then 6
 else if parB c=false then 7
 else 0
theorem range_no {p:Nat→Bool} {n k:Nat} (h:k<n) (hp:p k=false):(List.range n).all p=false :=
 all_no (l:=List.range n) (k:=k) (a:=k) (by simp [h]) hp
theorem range_snoc {p:Nat→Bool} (k:Nat):(List.range (k+1)).all p=((List.range k).all p && p k):=by
 rw [List.range_succ];simp
theorem ints_at {w:World} {Av:Nat→Prop} {A:Option Addr} {n:Nat} {l:List Int} (h:Sl w Av 1 A n (icellsC l)) {k:Nat} {a:Int} (ha:l[k]? = some a):∃ b off,A=some ⟨b,off,none⟩∧b<w.heap.size ∧
 w.cell? ⟨b,off+k,none⟩=some (.int .i64 a):=by
 have hk:=(List.getElem?_eq_some_iff.1 ha).1
 have hl:l.length=n:=by have:=h.len;simpa [icellsC] using this
 obtain ⟨b,off,e,hb,_,hr⟩:=h.at_ (by omega)
 exact ⟨b,off,e,hb,hr k _ (by simp [icellsC,ha])⟩
theorem e3_at {w:World} {Av:Nat→Prop} {A:Option Addr} {n:Nat} {l:List E3} (h:Sl w Av 3 A n (e3cells l)) {k:Nat} {a:E3} (ha:l[k]? = some a):∃ b off,A=some ⟨b,off,none⟩∧b<w.heap.size ∧
 w.cell? ⟨b,off+k * 3,none⟩=some (.int .i64 a.a)∧w.cell? ⟨b,off+k * 3+1,none⟩=some (.int .i64 a.b)∧w.cell? ⟨b,off+k * 3+2,none⟩=some (.int .i64 a.c):=by
 have hk:=(List.getElem?_eq_some_iff.1 ha).1
 have hl:l.length=n:=by
  have:=h.len
  rw [show (e3cells l).length=l.length * 3 from flat_len E3.cells 3 (fun _=>rfl) l] at this
  omega
 obtain ⟨b,off,e,hb,_,hr⟩:=h.at_ (by omega)
 have g:=fun j (hj:j<3) u (hu:a.cells[j]? = some u)=>hr (k * 3+j) u (by rw [show (e3cells l)[k * 3+j]? = (l[k]?).bind (fun a=>a.cells[j]?) from flat_get E3.cells 3 (fun _=>rfl) l k j hj,ha];exact hu)
 exact ⟨b,off,e,hb,g 0 (by omega) _ rfl,g 1 (by omega) _ rfl,g 2 (by omega) _ rfl⟩
theorem pl_at {w:World} {Av:Nat→Prop} {A:Option Addr} {n:Nat} {l:List PL} (h:Sl w Av 3 A n (plcells l)) {k:Nat} {a:PL} (ha:l[k]? = some a):∃ b off,A=some ⟨b,off,none⟩∧b<w.heap.size ∧
 w.cell? ⟨b,off+k * 3,none⟩=some (.string a.code)∧w.cell? ⟨b,off+k * 3+1,none⟩=some (.int .i64 a.urg)∧w.cell? ⟨b,off+k * 3+2,none⟩=some (.slice a.K a.kinds.length a.cc):=by
 have hk:=(List.getElem?_eq_some_iff.1 ha).1
 have hl:l.length=n:=by
  have:=h.len
  rw [show (plcells l).length=l.length * 3 from flat_len PL.cells 3 (fun _=>rfl) l] at this
  omega
 obtain ⟨b,off,e,hb,_,hr⟩:=h.at_ (by omega)
 have g:=fun j (hj:j<3) u (hu:a.cells[j]? = some u)=>hr (k * 3+j) u (by rw [show (plcells l)[k * 3+j]? = (l[k]?).bind (fun a=>a.cells[j]?) from flat_get PL.cells 3 (fun _=>rfl) l k j hj,ha];exact hu)
 exact ⟨b,off,e,hb,g 0 (by omega) _ rfl,g 1 (by omega) _ rfl,g 2 (by omega) _ rfl⟩
section
variable (w:World)
theorem isIndex_any (i n:Int):Calls Tryz.prog 91 #[.int .i64 i,.int .i64 n] w fun e w'=>e=.returned (.bool (inB i n))∧w'=w:=by
 by_cases h1:0≤i
 rotate_left 1
 ·go_enter Tryz.func91,Tryz.ntmps91
  go_wp2_with fail
  go_ret
  exact ⟨ret_of (congrArg Value.bool (by simp [inB] <;> omega)),rfl⟩
 by_cases h2:i<n
 rotate_left 1
 ·go_enter Tryz.func91,Tryz.ntmps91
  go_wp2_with fail
  go_ret
  exact ⟨ret_of (congrArg Value.bool (by simp [inB,h1,h2] <;> omega)),rfl⟩
 go_enter Tryz.func91,Tryz.ntmps91
 go_wp2_with fail
 go_ret
 exact ⟨ret_of (congrArg Value.bool (by simp [inB,h1,h2] <;> omega)),rfl⟩
theorem isKind_any (k:Int):Calls Tryz.prog 125 #[.int .i64 k] w fun e w'=>e=.returned (.bool (kindB k))∧w'=w:=by
 by_cases h1:1≤k
 rotate_left 1
 ·go_enter Tryz.func125,Tryz.ntmps125
  go_wp2_with fail
  go_ret
  exact ⟨ret_of (congrArg Value.bool (by simp [kindB] <;> omega)),rfl⟩
 by_cases h2:k≤4
 rotate_left 1
 ·go_enter Tryz.func125,Tryz.ntmps125
  go_wp2_with fail
  go_ret
  exact ⟨ret_of (congrArg Value.bool (by simp [kindB,h1,h2] <;> omega)),rfl⟩
 go_enter Tryz.func125,Tryz.ntmps125
 go_wp2_with fail
 go_ret
 exact ⟨ret_of (congrArg Value.bool (by simp [kindB,h1,h2] <;> omega)),rfl⟩
theorem within_any (x lo hi:Int):Calls Tryz.prog 100 #[.int .i64 x,.int .i64 lo,.int .i64 hi] w fun e w'=>e=.returned (.bool (rngB lo hi x))∧w'=w:=by
 by_cases h1:lo≤x
 rotate_left 1
 ·go_enter Tryz.func100,Tryz.ntmps100
  go_wp2_with fail
  go_ret
  exact ⟨ret_of (congrArg Value.bool (by simp [rngB] <;> omega)),rfl⟩
 by_cases h2:x≤hi
 rotate_left 1
 ·go_enter Tryz.func100,Tryz.ntmps100
  go_wp2_with fail
  go_ret
  exact ⟨ret_of (congrArg Value.bool (by simp [rngB,h1,h2] <;> omega)),rfl⟩
 go_enter Tryz.func100,Tryz.ntmps100
 go_wp2_with fail
 go_ret
 exact ⟨ret_of (congrArg Value.bool (by simp [rngB,h1,h2] <;> omega)),rfl⟩
set_option maxRecDepth 100000 in
theorem edge_any (c:CF) (e:E3):Calls Tryz.prog 96 #[.agg c.cells.toArray,.agg e.cells.toArray] w fun r w'=>r=.returned (.bool (edgeB c.dis.length e))∧Same w w':=by
 obtain ⟨cen,D,cD,dis,E,cE,edg,U,cU,uni,P,cP,pla,h0,h1,h2,h3,h4,h5,h6,h7,h8,h9⟩:=c
 obtain ⟨ea,eb,ec⟩:=e
 simp only [CF.cells,E3.cells]
 by_cases g1:0≤ea
 rotate_left 1
 ·go_enter Tryz.func96,Tryz.ntmps96
  go_wp2_with fail
  go_ret
  exact ⟨ret_of (congrArg Value.bool (by simp [edgeB,inB] <;> omega)),((Keep.refl _ w).alloc _).alloc _⟩
 by_cases g2:ea<(dis.length:Int)
 rotate_left 1
 ·go_enter Tryz.func96,Tryz.ntmps96
  go_wp2_with fail
  go_ret
  exact ⟨ret_of (congrArg Value.bool (by simp [edgeB,inB,g1] <;> omega)),((Keep.refl _ w).alloc _).alloc _⟩
 by_cases g3:0≤eb
 rotate_left 1
 ·go_enter Tryz.func96,Tryz.ntmps96
  go_wp2_with fail
  go_ret
  exact ⟨ret_of (congrArg Value.bool (by simp [edgeB,inB,g1,g2] <;> omega)),((Keep.refl _ w).alloc _).alloc _⟩
 by_cases g4:eb<(dis.length:Int)
 rotate_left 1
 ·go_enter Tryz.func96,Tryz.ntmps96
  go_wp2_with fail
  go_ret
  exact ⟨ret_of (congrArg Value.bool (by simp [edgeB,inB,g1,g2,g3] <;> omega)),((Keep.refl _ w).alloc _).alloc _⟩
 by_cases g5:1≤ec
 rotate_left 1
 ·have g7:(ec == 4611686018427387904)=false:=by simp;omega
  go_enter Tryz.func96,Tryz.ntmps96
  go_wp2_with fail
  go_ret
  exact ⟨ret_of (congrArg Value.bool (by simp [edgeB,inB,g1,g2,g3,g4,g7] <;> omega)),((Keep.refl _ w).alloc _).alloc _⟩
 ·by_cases g6:ec≤1048576
  rotate_left 1
  ·by_cases g7:(ec == 4611686018427387904)=true
   ·have g8:ec=4611686018427387904:=by simpa using g7
    subst g8
    go_enter Tryz.func96,Tryz.ntmps96
    go_wp2_with fail
    go_ret
    exact ⟨ret_of (congrArg Value.bool (by simp [edgeB,inB,g1,g2,g3,g4] <;> omega)),((Keep.refl _ w).alloc _).alloc _⟩
   ·have g8:(ec == 4611686018427387904)=false:=by simpa using g7
    go_enter Tryz.func96,Tryz.ntmps96
    go_wp2_with fail
    go_ret
    exact ⟨ret_of (congrArg Value.bool (by simp [edgeB,inB,g1,g2,g3,g4,g6,g8] <;> omega)),((Keep.refl _ w).alloc _).alloc _⟩
  ·go_enter Tryz.func96,Tryz.ntmps96
   go_wp2_with fail
   go_ret
   exact ⟨ret_of (congrArg Value.bool (by simp [edgeB,inB,g1,g2,g3,g4,g5,g6] <;> omega)),((Keep.refl _ w).alloc _).alloc _⟩
set_option maxRecDepth 100000 in
theorem unit_any (c:CF) (e:E3):Calls Tryz.prog 97 #[.agg c.cells.toArray,.agg e.cells.toArray] w fun r w'=>r=.returned (.bool (unitB c.cen c.dis.length e))∧Same w w':=by
 obtain ⟨cen,D,cD,dis,E,cE,edg,U,cU,uni,P,cP,pla,h0,h1,h2,h3,h4,h5,h6,h7,h8,h9⟩:=c
 obtain ⟨ea,eb,ec⟩:=e
 simp only [CF.cells,E3.cells]
 by_cases g1:1≤ea
 rotate_left 1
 ·go_enter Tryz.func97,Tryz.ntmps97
  go_wp2_with fail
  go_ret
  exact ⟨ret_of (congrArg Value.bool (by simp [unitB,kindB,inB] <;> omega)),((Keep.refl _ w).alloc _).alloc _⟩
 by_cases g2:ea≤4
 rotate_left 1
 ·go_enter Tryz.func97,Tryz.ntmps97
  go_wp2_with fail
  go_ret
  exact ⟨ret_of (congrArg Value.bool (by simp [unitB,kindB,inB,g1] <;> omega)),((Keep.refl _ w).alloc _).alloc _⟩
 by_cases g3:0≤eb
 rotate_left 1
 ·go_enter Tryz.func97,Tryz.ntmps97
  go_wp2_with fail
  go_ret
  exact ⟨ret_of (congrArg Value.bool (by simp [unitB,kindB,inB,g1,g2] <;> omega)),((Keep.refl _ w).alloc _).alloc _⟩
 by_cases g4:eb<cen
 rotate_left 1
 ·go_enter Tryz.func97,Tryz.ntmps97
  go_wp2_with fail
  go_ret
  exact ⟨ret_of (congrArg Value.bool (by simp [unitB,kindB,inB,g1,g2,g3] <;> omega)),((Keep.refl _ w).alloc _).alloc _⟩
 by_cases g5:0≤ec
 rotate_left 1
 ·go_enter Tryz.func97,Tryz.ntmps97
  go_wp2_with fail
  go_ret
  exact ⟨ret_of (congrArg Value.bool (by simp [unitB,kindB,inB,g1,g2,g3,g4] <;> omega)),((Keep.refl _ w).alloc _).alloc _⟩
 by_cases g6:ec<(dis.length:Int)
 rotate_left 1
 ·go_enter Tryz.func97,Tryz.ntmps97
  go_wp2_with fail
  go_ret
  exact ⟨ret_of (congrArg Value.bool (by simp [unitB,kindB,inB,g1,g2,g3,g4,g5,g6] <;> omega)),((Keep.refl _ w).alloc _).alloc _⟩
 go_enter Tryz.func97,Tryz.ntmps97
 go_wp2_with fail
 go_ret
 exact ⟨ret_of (congrArg Value.bool (by simp [unitB,kindB,inB,g1,g2,g3,g4,g5,g6] <;> omega)),((Keep.refl _ w).alloc _).alloc _⟩
set_option maxRecDepth 100000 in
theorem isCode_any (s:ByteArray) (hsz:s.size≤maxLen):Calls Tryz.prog 126 #[.string s] w fun e w'=>e=.returned (.bool (codeB s))∧w'=w:=by
 unfold maxLen at hsz
 have hbt:=get_bt s
 have HL:=hid (show ∀ k,chB s k=(decide (33≤bt s k) && decide (bt s k≤126)) from fun _=>rfl)
 by_cases h1:(s.size:Int)<1
 ·go_enter Tryz.func126,Tryz.ntmps126
  go_wp2_with fail
  go_ret
  exact ⟨ret_of (congrArg Value.bool (by simp [codeB];omega)),rfl⟩
 ·by_cases h2:40<(s.size:Int)
  ·go_enter Tryz.func126,Tryz.ntmps126
   go_wp2_with fail
   go_ret
   exact ⟨ret_of (congrArg Value.bool (by simp [codeB];omega)),rfl⟩
  ·go_enter Tryz.func126,Tryz.ntmps126
   go_wp2_with fail
   go_loopw [14] (fun i wr=>∃ k:Nat,k≤s.size∧i=.int .i64 k∧Hid ((List.range k).all (chB s)=true∧wr=w)) (fun i _=>s.size - (RowKit.intOf i).toNat)
   case atStart=>exact ⟨0,by omega,rfl,hid ⟨by simp,rfl⟩⟩
   case round =>
    obtain ⟨k,hk,rfl,HI⟩:=hrel
    by_cases hlt:k<s.size
    ·have hk1:(k:Int)<(s.size:Int):=by omega
     have hk2:(k:Int)+1≤9223372036854775807:=by omega
     have hb0:=bt_nonneg s k
     by_cases g1:bt s k<33
     ·go_wp2_with fail
      go_ret
      exact ⟨ret_of (congrArg Value.bool (by rw [codeB,range_no hlt (by rw [HL.out];simp;omega)];simp)),HI.out.2⟩
     ·by_cases g2:126<bt s k
      ·go_wp2_with fail
       go_ret
       exact ⟨ret_of (congrArg Value.bool (by rw [codeB,range_no hlt (by rw [HL.out];simp;omega)];simp)),HI.out.2⟩
      ·go_wp2_with fail
       go_roundw
       case rel=>exact ⟨k+1,by omega,by go_num,hid ⟨by rw [range_snoc,HI.out.1,HL.out];simp;omega,HI.out.2⟩⟩
       case measure=>simp [RowKit.intOf];omega
    ·obtain rfl:k=s.size:=by omega
     go_wp2_with fail
     go_ret
     exact ⟨ret_of (congrArg Value.bool (by rw [codeB,HI.out.1];simp;omega)),HI.out.2⟩
set_option maxRecDepth 100000 in
theorem Code_any (s:ByteArray) (hsz:s.size≤maxLen):Calls Tryz.prog 128 #[.string s] w fun e w'=>e=.returned (.bool (codeB s))∧w'=w:=by
 unfold maxLen at hsz
 have hbt:=get_bt s
 have HL:=hid (show ∀ k,chB s k=(decide (33≤bt s k) && decide (bt s k≤126)) from fun _=>rfl)
 go_enter Tryz.func128,Tryz.ntmps128
 go_wp2_with fail
 go_loopw [3] (fun i wr=>∃ k:Nat,k≤s.size∧i=.int .i64 k∧Hid ((List.range k).all (chB s)=true∧wr=w)) (fun i _=>s.size - (RowKit.intOf i).toNat)
 case atStart=>exact ⟨0,by omega,rfl,hid ⟨by simp,rfl⟩⟩
 case round =>
  obtain ⟨k,hk,rfl,HI⟩:=hrel
  by_cases hlt:k<s.size
  ·have hk1:(k:Int)<(s.size:Int):=by omega
   have hk2:(k:Int)+1≤9223372036854775807:=by omega
   have hb0:=bt_nonneg s k
   by_cases g1:bt s k<33
   ·go_wp2_with fail
    go_ret
    exact ⟨ret_of (congrArg Value.bool (by rw [codeB,range_no hlt (by rw [HL.out];simp;omega)];simp)),HI.out.2⟩
   ·by_cases g2:126<bt s k
    ·go_wp2_with fail
     go_ret
     exact ⟨ret_of (congrArg Value.bool (by rw [codeB,range_no hlt (by rw [HL.out];simp;omega)];simp)),HI.out.2⟩
    ·go_wp2_with fail
     go_roundw
     case rel=>exact ⟨k+1,by omega,by go_num,hid ⟨by rw [range_snoc,HI.out.1,HL.out];simp;omega,HI.out.2⟩⟩
     case measure=>simp [RowKit.intOf];omega
  ·obtain rfl:k=s.size:=by omega
   by_cases h1:1≤(s.size:Int)
   rotate_left 1
   ·go_wp2_with fail
    go_ret
    exact ⟨ret_of (congrArg Value.bool (by rw [codeB,HI.out.1];simp;omega)),HI.out.2⟩
   ·by_cases h2:(s.size:Int)≤40
    rotate_left 1
    ·go_wp2_with fail
     go_ret
     exact ⟨ret_of (congrArg Value.bool (by rw [codeB,HI.out.1];simp;omega)),HI.out.2⟩
    ·go_wp2_with fail
     go_ret
     exact ⟨ret_of (congrArg Value.bool (by rw [codeB,HI.out.1];simp;omega)),HI.out.2⟩
set_option maxRecDepth 100000 in
theorem numbers_any (c:CF):Calls Tryz.prog 99 #[.agg c.cells.toArray] w fun e w'=>(∃ g,e=.returned (.slice (some ⟨g,0,none⟩) 10 10)∧w.heap.size≤g∧Blk w' g 2 #[.int .i64 c.h0,.int .i64 c.h1,.int .i64 c.h2,.int .i64 c.h3,.int .i64 c.h4,.int .i64 c.h5,.int .i64 c.h6,.int .i64 c.h7,.int .i64 c.h8,.int .i64 c.h9])∧Same w w':=by
 obtain ⟨cen,D,cD,dis,E,cE,edg,U,cU,uni,P,cP,pla,h0,h1,h2,h3,h4,h5,h6,h7,h8,h9⟩:=c
 simp only [CF.cells]
 go_enter Tryz.func99,Tryz.ntmps99
 go_wp2_with fail
 go_ret
 have h:=fun o=>Blk.made (w.alloc o) 2 #[.int .i64 h0,.int .i64 h1,.int .i64 h2,.int .i64 h3,.int .i64 h4,.int .i64 h5,.int .i64 h6,.int .i64 h7,.int .i64 h8,.int .i64 h9]
 simp only [World.size_alloc] at h
 exact ⟨⟨_,rfl,by simp,h _⟩,((Keep.refl _ w).alloc _).alloc _⟩
end
section
variable (w:World)
set_option maxHeartbeats 4000000 in
set_option maxRecDepth 100000 in
theorem validEdges_any (g:Nat) (c:CF) (hb:Blk w g 27 c.cells.toArray) (hm:CM w c):Calls Tryz.prog 92 #[.pointer (some ⟨g,0,none⟩)] w fun e w'=>e=.returned (.bool (edgesB c))∧Same w w':=by
 have HB:=hid (fun W (hk:Same w W)=>hb.keep hk (fun f=>f))
 have HM:=hid (fun W (hk:Same w W)=>(hm.same hk).edg)
 have HN:=hid hm.lE
 have hg:=hb.lt
 obtain ⟨cen,D,cD,dis,E,cE,edg,U,cU,uni,P,cP,pla,h0,h1,h2,h3,h4,h5,h6,h7,h8,h9⟩:=c
 have c0:=hb.at_ 0
 have c1:=hb.at_ 1
 have c2:=hb.at_ 2
 have c3:=hb.at_ 3
 have c4:=hb.at_ 4
 simp [CF.cells] at c0 c1 c2 c3 c4
 simp only at HN HM
 clear hb hm
 go_enter Tryz.func92,Tryz.ntmps92
 go_wp2_with fail
 go_loopw [16] (fun i wr=>∃ k:Nat,k≤edg.length∧i=.int .i64 k∧Hid (Same w wr∧(edg.take k).all (edgeB dis.length)=true)) (fun i _=>edg.length - (RowKit.intOf i).toNat)
 case atStart=>exact ⟨0,by omega,rfl,hid ⟨Keep.refl _ w,by simp⟩⟩
 case round =>
  obtain ⟨k,hk,rfl,HI⟩:=hrel
  clear c0 c1 c2 c3 c4
  have hb2:=HB.out wr HI.out.1
  have c0:=hb2.at_ 0
  have c1:=hb2.at_ 1
  have c2:=hb2.at_ 2
  simp [CF.cells] at c0 c1 c2
  have hgr:=hb2.lt
  clear hb2
  by_cases hlt:k<edg.length
  ·obtain ⟨a,ha⟩:=get_some (l:=edg) (k:=k) hlt
   obtain ⟨b,off,rfl,hb3,q0,q1,q2⟩:=e3_at (HM.out wr HI.out.1) ha
   have HT:=hid (take_all (p:=edgeB dis.length) ha)
   have HNo:=hid (fun hp=>all_no (p:=edgeB dis.length) ha hp)
   obtain ⟨ea,eb,ec⟩:=a
   simp only at q0 q1 q2
   have hk1:(k:Int)<(edg.length:Int):=by omega
   clear ha
   have hne:g≠wr.heap.size:=by omega
   by_cases i1:inB ea dis.length=true
   rotate_left 1
   ·have i1':inB ea dis.length=false:=by simpa using i1
    go_wp2_with (first | (go_at_call 91;(with_reducible refine (isIndex_any _ _ _).mono ?_);rintro e w9 ⟨rfl,rfl⟩))
    go_ret
    exact ⟨ret_of (congrArg Value.bool (by rw [edgesB,HNo.out (by simp [edgeB,i1'] <;> omega)];rfl)),HI.out.1.alloc _⟩
   ·by_cases i2:inB eb dis.length=true
    rotate_left 1
    ·have i2':inB eb dis.length=false:=by simpa using i2
     go_wp2_with (first | (go_at_call 91;(with_reducible refine (isIndex_any _ _ _).mono ?_);rintro e w9 ⟨rfl,rfl⟩))
     go_ret
     exact ⟨ret_of (congrArg Value.bool (by rw [edgesB,HNo.out (by simp [edgeB,i1,i2'] <;> omega)];rfl)),HI.out.1.alloc _⟩
    ·by_cases i3:ec<1
     ·have i5:(ec == 4611686018427387904)=false:=by simp;omega
      go_wp2_with (first | (go_at_call 91;(with_reducible refine (isIndex_any _ _ _).mono ?_);rintro e w9 ⟨rfl,rfl⟩))
      go_ret
      exact ⟨ret_of (congrArg Value.bool (by rw [edgesB,HNo.out (by simp [edgeB,i1,i2,i5] <;> omega)];rfl)),HI.out.1.alloc _⟩
     ·by_cases i4:1048576<ec
      ·by_cases i5:(ec == 4611686018427387904)=true
       ·have i6:ec=4611686018427387904:=by simpa using i5
        go_upto_region 9 with (first | (go_at_call 91;(with_reducible refine (isIndex_any _ _ _).mono ?_);rintro e w9 ⟨rfl,rfl⟩))
        have hk2:(k:Int)+1≤9223372036854775807:=by have:=HN.out;unfold maxLen at this;omega
        go_wp2_with fail
        go_roundw
        case rel=>exact ⟨k+1,by omega,by go_num,hid ⟨HI.out.1.alloc _,by rw [HT.out,HI.out.2];simp [edgeB,i1,i2] <;> omega⟩⟩
        case measure=>simp [RowKit.intOf];omega
       ·have i6:(ec == 4611686018427387904)=false:=by simpa using i5
        go_wp2_with (first | (go_at_call 91;(with_reducible refine (isIndex_any _ _ _).mono ?_);rintro e w9 ⟨rfl,rfl⟩))
        go_ret
        exact ⟨ret_of (congrArg Value.bool (by rw [edgesB,HNo.out (by simp [edgeB,i1,i2,i6] <;> omega)];rfl)),HI.out.1.alloc _⟩
      ·have i5:(ec == 4611686018427387904)=false:=by simp;omega
       go_upto_region 9 with (first | (go_at_call 91;(with_reducible refine (isIndex_any _ _ _).mono ?_);rintro e w9 ⟨rfl,rfl⟩))
       have hk2:(k:Int)+1≤9223372036854775807:=by have:=HN.out;unfold maxLen at this;omega
       go_wp2_with fail
       go_roundw
       case rel=>exact ⟨k+1,by omega,by go_num,hid ⟨HI.out.1.alloc _,by rw [HT.out,HI.out.2];simp [edgeB,i1,i2] <;> omega⟩⟩
       case measure=>simp [RowKit.intOf];omega
  ·have e1:edg.take k=edg:=List.take_of_length_le (by omega)
   have hk1:(edg.length:Int)≤(k:Int):=by omega
   have hk3:decide ((k:Int)<(edg.length:Int))=false:=decide_eq_false (by omega)
   have h2:=HI.out.2
   rw [e1] at h2
   have H2:=hid h2
   clear h2 e1
   by_cases h60:(edg.length:Int)≤16384
   ·go_wp2_with fail
    go_ret
    exact ⟨ret_of (congrArg Value.bool (by unfold edgesB;simp only;rw [H2.out];simp <;> omega)),HI.out.1⟩
   ·go_wp2_with fail
    go_ret
    exact ⟨ret_of (congrArg Value.bool (by unfold edgesB;simp only;rw [H2.out];simp <;> omega)),HI.out.1⟩
set_option maxHeartbeats 4000000 in
set_option maxRecDepth 100000 in
theorem validUnits_any (g:Nat) (c:CF) (hb:Blk w g 27 c.cells.toArray) (hm:CM w c):Calls Tryz.prog 93 #[.pointer (some ⟨g,0,none⟩)] w fun e w'=>e=.returned (.bool (unitsB c))∧Same w w':=by
 have HB:=hid (fun W (hk:Same w W)=>hb.keep hk (fun f=>f))
 have HM:=hid (fun W (hk:Same w W)=>(hm.same hk).uni)
 have HN:=hid hm.lU
 have hg:=hb.lt
 obtain ⟨cen,D,cD,dis,E,cE,edg,U,cU,uni,P,cP,pla,h0,h1,h2,h3,h4,h5,h6,h7,h8,h9⟩:=c
 have c0:=hb.at_ 0
 have c1:=hb.at_ 1
 have c2:=hb.at_ 2
 have c3:=hb.at_ 3
 have c4:=hb.at_ 4
 simp [CF.cells] at c0 c1 c2 c3 c4
 simp only at HN HM
 clear hb hm
 go_enter Tryz.func93,Tryz.ntmps93
 go_wp2_with fail
 go_loopw [10] (fun i wr=>∃ k:Nat,k≤uni.length∧i=.int .i64 k∧Hid (Same w wr∧(uni.take k).all (unitB cen dis.length)=true)) (fun i _=>uni.length - (RowKit.intOf i).toNat)
 case atStart=>exact ⟨0,by omega,rfl,hid ⟨Keep.refl _ w,by simp⟩⟩
 case round =>
  obtain ⟨k,hk,rfl,HI⟩:=hrel
  clear c0 c1 c2 c3 c4
  have hb2:=HB.out wr HI.out.1
  have c0:=hb2.at_ 0
  have c1:=hb2.at_ 1
  have c2:=hb2.at_ 2
  have c3:=hb2.at_ 3
  simp [CF.cells] at c0 c1 c2 c3
  have hgr:=hb2.lt
  clear hb2
  by_cases hlt:k<uni.length
  ·obtain ⟨a,ha⟩:=get_some (l:=uni) (k:=k) hlt
   obtain ⟨b,off,rfl,hb3,q0,q1,q2⟩:=e3_at (HM.out wr HI.out.1) ha
   have HT:=hid (take_all (p:=unitB cen dis.length) ha)
   have HNo:=hid (fun hp=>all_no (p:=unitB cen dis.length) ha hp)
   obtain ⟨ea,eb,ec⟩:=a
   simp only at q0 q1 q2
   have hk1:(k:Int)<(uni.length:Int):=by omega
   clear ha
   have hne:g≠wr.heap.size:=by omega
   have z0:=(Keep.refl (fun _=>False) wr).alloc (.cells #[.int .i64 ea,.int .i64 eb,.int .i64 ec] 182)
   have HZ:=hid z0
   clear z0
   go_wp2_with fail
   by_cases i1:kindB ea=true
   rotate_left 1
   ·have i1':kindB ea=false:=by simpa using i1
    have HC1:=hid (isKind_any (wr.alloc (.cells #[.int .i64 ea,.int .i64 eb,.int .i64 ec] 182)).drew ea)
    rw [i1'] at HC1
    refine wp_region_held_drew (S:=fun W=>W=(wr.alloc (.cells #[.int .i64 ea,.int .i64 eb,.int .i64 ec] 182)).drew) (by kernel_rfl) rfl (fun hHeld=>?_)
    refine tk 0 ?_
    refine tk 1 ?_
    refine rd1 2 (fun K hK=>?_)
    go_simp
    refine (HC1.out).mono ?_
    rintro e w91 ⟨rfl,rfl⟩
    refine hK.out _ _ rfl (fun hHeld1=>?_)
    clear hK K
    refine pput ?_
    refine tk 3 ?_
    refine tk 4 ?_
    refine tu 5 ?_
    refine tu 6 ?_
    refine tu 7 ?_
    refine tu 8 ?_
    refine tu 9 ?_
    refine tu 10 ?_
    refine tu 11 ?_
    refine tu 12 ?_
    refine tk 13 ?_
    refine tk 14 ?_
    refine tu 15 ?_
    refine tu 16 ?_
    refine tu 17 ?_
    refine tu 18 ?_
    refine tu 19 ?_
    refine tu 20 ?_
    refine tu 21 ?_
    refine tu 22 ?_
    refine tu 23 ?_
    refine tk 24 ?_
    refine wpAnyH_done (by kernel_rfl) ?_ _
    go_wp2_with fail
    go_ret
    exact ⟨ret_of (congrArg Value.bool (by rw [unitsB,HNo.out (by simp [unitB,i1'] <;> omega)];rfl)),(HI.out.1.alloc _).drew⟩
   ·by_cases i2:inB eb cen=true
    rotate_left 1
    ·have i2':inB eb cen=false:=by simpa using i2
     have HC1:=hid (isKind_any (wr.alloc (.cells #[.int .i64 ea,.int .i64 eb,.int .i64 ec] 182)).drew ea)
     rw [i1] at HC1
     have HC2:=hid (isIndex_any (wr.alloc (.cells #[.int .i64 ea,.int .i64 eb,.int .i64 ec] 182)).drew eb cen)
     rw [i2'] at HC2
     refine wp_region_held_drew (S:=fun W=>W=(wr.alloc (.cells #[.int .i64 ea,.int .i64 eb,.int .i64 ec] 182)).drew) (by kernel_rfl) rfl (fun hHeld=>?_)
     refine tk 0 ?_
     refine tk 1 ?_
     refine rd1 2 (fun K hK=>?_)
     go_simp
     refine (HC1.out).mono ?_
     rintro e w91 ⟨rfl,rfl⟩
     refine hK.out _ _ rfl (fun hHeld1=>?_)
     clear hK K
     refine pput ?_
     refine tk 3 ?_
     refine tk 4 ?_
     refine tk 5 ?_
     refine tk 6 ?_
     refine tk 7 ?_
     refine tk 8 ?_
     refine tk 9 ?_
     refine tk 10 ?_
     refine rd1 11 (fun K hK=>?_)
     go_simp
     refine (HC2.out).mono ?_
     rintro e w92 ⟨rfl,rfl⟩
     refine hK.out _ _ rfl (fun hHeld2=>?_)
     clear hK K
     refine pput ?_
     refine tk 12 ?_
     refine tk 13 ?_
     refine tk 14 ?_
     refine tu 15 ?_
     refine tu 16 ?_
     refine tu 17 ?_
     refine tu 18 ?_
     refine tu 19 ?_
     refine tu 20 ?_
     refine tu 21 ?_
     refine tu 22 ?_
     refine tu 23 ?_
     refine tk 24 ?_
     refine wpAnyH_done (by kernel_rfl) ?_ _
     go_wp2_with fail
     go_ret
     exact ⟨ret_of (congrArg Value.bool (by rw [unitsB,HNo.out (by simp [unitB,i1,i2'] <;> omega)];rfl)),(HI.out.1.alloc _).drew⟩
    ·have HC1:=hid (isKind_any (wr.alloc (.cells #[.int .i64 ea,.int .i64 eb,.int .i64 ec] 182)).drew ea)
     rw [i1] at HC1
     have HC2:=hid (isIndex_any (wr.alloc (.cells #[.int .i64 ea,.int .i64 eb,.int .i64 ec] 182)).drew eb cen)
     rw [i2] at HC2
     have HC3:=hid (isIndex_any (wr.alloc (.cells #[.int .i64 ea,.int .i64 eb,.int .i64 ec] 182)).drew ec dis.length)
     by_cases i3:inB ec dis.length=true
     rotate_left 1
     ·have i3':inB ec dis.length=false:=by simpa using i3
      rw [i3'] at HC3
      refine wp_region_held_drew (S:=fun W=>W=(wr.alloc (.cells #[.int .i64 ea,.int .i64 eb,.int .i64 ec] 182)).drew) (by kernel_rfl) rfl (fun hHeld=>?_)
      refine tk 0 ?_
      refine tk 1 ?_
      refine rd1 2 (fun K hK=>?_)
      go_simp
      refine (HC1.out).mono ?_
      rintro e w91 ⟨rfl,rfl⟩
      refine hK.out _ _ rfl (fun hHeld1=>?_)
      clear hK K
      refine pput ?_
      refine tk 3 ?_
      refine tk 4 ?_
      refine tk 5 ?_
      refine tk 6 ?_
      refine tk 7 ?_
      refine tk 8 ?_
      refine tk 9 ?_
      refine tk 10 ?_
      refine rd1 11 (fun K hK=>?_)
      go_simp
      refine (HC2.out).mono ?_
      rintro e w92 ⟨rfl,rfl⟩
      refine hK.out _ _ rfl (fun hHeld2=>?_)
      clear hK K
      refine pput ?_
      refine tk 12 ?_
      refine tk 13 ?_
      refine tk 14 ?_
      refine tk 15 ?_
      refine tk 16 ?_
      refine tk 17 ?_
      refine tk 18 ?_
      refine tk 19 ?_
      refine tk 20 ?_
      refine tk 21 ?_
      refine rd1 22 (fun K hK=>?_)
      go_simp
      refine (HC3.out).mono ?_
      rintro e w93 ⟨rfl,rfl⟩
      refine hK.out _ _ rfl (fun hHeld3=>?_)
      clear hK K
      refine pput ?_
      refine tk 23 ?_
      refine tk 24 ?_
      refine wpAnyH_done (by kernel_rfl) ?_ _
      go_wp2_with fail
      go_ret
      exact ⟨ret_of (congrArg Value.bool (by rw [unitsB,HNo.out (by simp [unitB,i1,i2,i3'] <;> omega)];rfl)),(HI.out.1.alloc _).drew⟩
     ·rw [i3] at HC3
      refine wp_region_held_drew (S:=fun W=>W=(wr.alloc (.cells #[.int .i64 ea,.int .i64 eb,.int .i64 ec] 182)).drew) (by kernel_rfl) rfl (fun hHeld=>?_)
      refine tk 0 ?_
      refine tk 1 ?_
      refine rd1 2 (fun K hK=>?_)
      go_simp
      refine (HC1.out).mono ?_
      rintro e w91 ⟨rfl,rfl⟩
      refine hK.out _ _ rfl (fun hHeld1=>?_)
      clear hK K
      refine pput ?_
      refine tk 3 ?_
      refine tk 4 ?_
      refine tk 5 ?_
      refine tk 6 ?_
      refine tk 7 ?_
      refine tk 8 ?_
      refine tk 9 ?_
      refine tk 10 ?_
      refine rd1 11 (fun K hK=>?_)
      go_simp
      refine (HC2.out).mono ?_
      rintro e w92 ⟨rfl,rfl⟩
      refine hK.out _ _ rfl (fun hHeld2=>?_)
      clear hK K
      refine pput ?_
      refine tk 12 ?_
      refine tk 13 ?_
      refine tk 14 ?_
      refine tk 15 ?_
      refine tk 16 ?_
      refine tk 17 ?_
      refine tk 18 ?_
      refine tk 19 ?_
      refine tk 20 ?_
      refine tk 21 ?_
      refine rd1 22 (fun K hK=>?_)
      go_simp
      refine (HC3.out).mono ?_
      rintro e w93 ⟨rfl,rfl⟩
      refine hK.out _ _ rfl (fun hHeld3=>?_)
      clear hK K
      refine pput ?_
      refine tk 23 ?_
      refine tk 24 ?_
      refine wpAnyH_done (by kernel_rfl) ?_ _
      go_upto_region 6 with fail
      have hk2:(k:Int)+1≤9223372036854775807:=by have:=HN.out;unfold maxLen at this;omega
      go_wp2_with fail
      go_roundw
      case rel=>exact ⟨k+1,by omega,by go_num,hid ⟨(HI.out.1.alloc _).drew,by rw [HT.out,HI.out.2];simp [unitB,i1,i2,i3] <;> omega⟩⟩
      case measure=>simp [RowKit.intOf];omega
  ·have e1:uni.take k=uni:=List.take_of_length_le (by omega)
   have hk1:(uni.length:Int)≤(k:Int):=by omega
   have hk3:decide ((k:Int)<(uni.length:Int))=false:=decide_eq_false (by omega)
   have h2:=HI.out.2
   rw [e1] at h2
   have H2:=hid h2
   clear h2 e1
   by_cases h60:(uni.length:Int)≤256
   ·go_wp2_with fail
    go_ret
    exact ⟨ret_of (congrArg Value.bool (by unfold unitsB;simp only;rw [H2.out];simp <;> omega)),HI.out.1⟩
   ·go_wp2_with fail
    go_ret
    exact ⟨ret_of (congrArg Value.bool (by unfold unitsB;simp only;rw [H2.out];simp <;> omega)),HI.out.1⟩
end
section
variable (w:World)
def PlOk (w:World) (p:PL):Prop:=Sl w (fun _=>False) 1 p.K p.kinds.length (icellsC p.kinds)∧p.kinds.length≤maxLen∧p.code.size≤maxLen
theorem PlOk.same {w w':World} {p:PL} (h:PlOk w p) (hk:Same w w'):PlOk w' p:=⟨h.1.same hk,h.2⟩
set_option maxRecDepth 100000 in
set_option maxHeartbeats 4000000 in
theorem plan_any (p:PL) (hp:PlOk w p):Calls Tryz.prog 98 #[.agg p.cells.toArray] w fun r w'=>r=.returned (.bool (planB p))∧Same w w':=by
 have HK:=hid hp.1
 have HL:=hid hp.2.1
 have HC:=hid (Code_any)
 have HCS:=hid hp.2.2
 clear hp
 obtain ⟨code,urg,K,cc,kinds⟩:=p
 simp only [PL.cells] at *
 have HPB:=hid (show planB ⟨code,urg,K,cc,kinds⟩=(kinds.all kindB && codeB code && (decide (1≤urg) && decide (urg≤5)) && (decide (1≤kinds.length) && decide (kinds.length≤8))) from rfl)
 generalize planB ⟨code,urg,K,cc,kinds⟩=pb at *
 have z0:=(Keep.refl (fun _=>False) w).alloc (.cells #[.string code,.int .i64 urg,.slice K kinds.length cc] 146)
 have HZ:=hid z0
 clear z0
 go_enter Tryz.func98,Tryz.ntmps98
 go_wp2_with fail
 go_loopw [8] (fun i wr=>∃ k:Nat,k≤kinds.length∧i=.int .i64 k∧wr=w.alloc (.cells #[.string code,.int .i64 urg,.slice K kinds.length cc] 146)∧Hid ((kinds.take k).all kindB=true)) (fun i _=>kinds.length - (RowKit.intOf i).toNat)
 case atStart=>exact ⟨0,by omega,rfl,rfl,hid (by simp)⟩
 case round =>
  obtain ⟨k,hk,rfl,rfl,HI⟩:=hrel
  by_cases hlt:k<kinds.length
  ·obtain ⟨a,ha⟩:=get_some (l:=kinds) (k:=k) hlt
   obtain ⟨b,off,rfl,hb3,q0⟩:=ints_at (HK.out.same HZ.out) ha
   have HT:=hid (take_all (p:=kindB) ha)
   have HNo:=hid (fun hp=>all_no (p:=kindB) ha hp)
   have hk1:(k:Int)<(kinds.length:Int):=by omega
   clear ha
   by_cases i1:a<1
   ·go_wp2_with fail
    go_ret
    exact ⟨ret_of (congrArg Value.bool (by rw [HPB.out,HNo.out (by simp [kindB];omega)];rfl)),HZ.out⟩
   ·by_cases i2:4<a
    ·go_wp2_with fail
     go_ret
     exact ⟨ret_of (congrArg Value.bool (by rw [HPB.out,HNo.out (by simp [kindB];omega)];rfl)),HZ.out⟩
    ·go_upto_region 6 with fail
     have hk2:(k:Int)+1≤9223372036854775807:=by have:=HL.out;unfold maxLen at this;omega
     go_wp2_with fail
     go_roundw
     case rel=>exact ⟨k+1,by omega,by go_num,by trivial,hid (by rw [HT.out,HI.out];simp [kindB];omega)⟩
     case measure=>simp [RowKit.intOf];omega
  ·have e1:kinds.take k=kinds:=List.take_of_length_le (by omega)
   have hk1:(kinds.length:Int)≤(k:Int):=by omega
   have h2:=HI.out
   rw [e1] at h2
   have H2:=hid h2
   clear h2 e1
   by_cases g0:codeB code=true
   rotate_left 1
   ·have g0':codeB code=false:=by simpa using g0
    go_wp2_with (go_at_call 128;(with_reducible refine (HC.out _ _ HCS.out).mono ?_);rintro e w9 ⟨rfl,rfl⟩;rw [g0'])
    go_ret
    exact ⟨ret_of (congrArg Value.bool (by rw [HPB.out,H2.out,g0'];first | rfl | (simp;omega) | simp)),HZ.out⟩
   ·by_cases g1:1≤urg
    rotate_left 1
    ·go_wp2_with (go_at_call 128;(with_reducible refine (HC.out _ _ HCS.out).mono ?_);rintro e w9 ⟨rfl,rfl⟩;rw [g0])
     go_ret
     exact ⟨ret_of (congrArg Value.bool (by rw [HPB.out,H2.out,g0];simp only [show decide (1≤urg)=false from decide_eq_false (by omega)];first | rfl | (simp;omega) | simp)),HZ.out⟩
    ·by_cases g2:urg≤5
     rotate_left 1
     ·go_wp2_with (go_at_call 128;(with_reducible refine (HC.out _ _ HCS.out).mono ?_);rintro e w9 ⟨rfl,rfl⟩;rw [g0])
      go_ret
      exact ⟨ret_of (congrArg Value.bool (by rw [HPB.out,H2.out,g0];simp only [show decide (1≤urg)=true from decide_eq_true (by omega),show decide (urg≤5)=false from decide_eq_false (by omega)];first | rfl | (simp;omega) | simp)),HZ.out⟩
     ·by_cases g3:1≤(kinds.length:Int)
      rotate_left 1
      ·go_wp2_with (go_at_call 128;(with_reducible refine (HC.out _ _ HCS.out).mono ?_);rintro e w9 ⟨rfl,rfl⟩;rw [g0])
       go_ret
       exact ⟨ret_of (congrArg Value.bool (by rw [HPB.out,H2.out,g0];simp only [show decide (1≤urg)=true from decide_eq_true (by omega),show decide (urg≤5)=true from decide_eq_true (by omega),show decide (1≤kinds.length)=false from decide_eq_false (by omega)];first | rfl | (simp;omega) | simp)),HZ.out⟩
      ·by_cases g4:(kinds.length:Int)≤8
       rotate_left 1
       ·go_wp2_with (go_at_call 128;(with_reducible refine (HC.out _ _ HCS.out).mono ?_);rintro e w9 ⟨rfl,rfl⟩;rw [g0])
        go_ret
        exact ⟨ret_of (congrArg Value.bool (by rw [HPB.out,H2.out,g0];simp only [show decide (1≤urg)=true from decide_eq_true (by omega),show decide (urg≤5)=true from decide_eq_true (by omega),show decide (1≤kinds.length)=true from decide_eq_true (by omega),show decide (kinds.length≤8)=false from decide_eq_false (by omega)];first | rfl | (simp;omega) | simp)),HZ.out⟩
       ·go_wp2_with (go_at_call 128;(with_reducible refine (HC.out _ _ HCS.out).mono ?_);rintro e w9 ⟨rfl,rfl⟩;rw [g0])
        go_ret
        exact ⟨ret_of (congrArg Value.bool (by rw [HPB.out,H2.out,g0];simp only [show decide (1≤urg)=true from decide_eq_true (by omega),show decide (urg≤5)=true from decide_eq_true (by omega),show decide (1≤kinds.length)=true from decide_eq_true (by omega),show decide (kinds.length≤8)=true from decide_eq_true (by omega)];first | rfl | (simp;omega) | simp)),HZ.out⟩
theorem upB_at {l:List PL} {k:Nat} {p:PL} (h:l[k]? = some p):upB l k=(planB p && (l.take k).all (diffB p)):=by simp [upB,h]
theorem plans_at {w:World} {c:CF} (hm:CM w c) {k:Nat} {p:PL} (h:c.pla[k]? = some p):PlOk w p:=hm.kinds p (List.mem_of_getElem? h)
set_option maxRecDepth 100000 in
set_option maxHeartbeats 8000000 in
theorem validPlans_any (g:Nat) (c:CF) (hb:Blk w g 27 c.cells.toArray) (hm:CM w c):Calls Tryz.prog 94 #[.pointer (some ⟨g,0,none⟩)] w fun e w'=>e=.returned (.bool (plansB c.pla))∧Same w w':=by
 have HB:=hid (fun W (hk:Same w W)=>(hb.keep hk (fun f=>f)).at_ 4)
 have HM:=hid (fun W (hk:Same w W)=>(hm.same hk).pla)
 have HQ:=hid (fun k p (h:c.pla[k]? = some p)=>plans_at hm h)
 have HN:=hid hm.lP
 have HCP:=hid hm.capP
 have hg:=hb.lt
 have HIK:=hid isKind_any
 have HIC:=hid isCode_any
 obtain ⟨cen,D,cD,dis,E,cE,edg,U,cU,uni,P,cP,pla,h0,h1,h2,h3,h4,h5,h6,h7,h8,h9⟩:=c
 simp [CF.cells] at HB
 simp only at HM HN HQ HCP
 clear hb hm
 have c4:=HB.out w (Keep.refl _ w)
 have HPB:=hid (show plansB pla=(decide (pla.length≤64) && (List.range pla.length).all (upB pla)) from rfl)
 generalize plansB pla=pb at *
 by_cases h64:64<(pla.length:Int)
 ·go_enter Tryz.func94,Tryz.ntmps94
  go_wp2_with fail
  go_ret
  exact ⟨ret_of (congrArg Value.bool (by rw [HPB.out,decide_eq_false (by omega)];rfl)),Keep.refl _ w⟩
 go_enter Tryz.func94,Tryz.ntmps94
 go_wp2_with fail
 go_loopw [20] (fun i wr=>∃ k:Nat,k≤pla.length∧i=.int .i64 k∧Hid (Same w wr∧(List.range k).all (upB pla)=true)) (fun i _=>pla.length - (RowKit.intOf i).toNat)
 case atStart=>exact ⟨0,by omega,rfl,hid ⟨Keep.refl _ w,by simp⟩⟩
 case round =>
  obtain ⟨k,hk,rfl,HI⟩:=hrel
  clear c4
  have c4:=HB.out wr HI.out.1
  by_cases hlt:k<pla.length
  ·obtain ⟨a,ha⟩:=get_some (l:=pla) (k:=k) hlt
   obtain ⟨b,off,rfl,hb3,q0,q1,q2⟩:=pl_at (HM.out wr HI.out.1) ha
   have HU:=hid (upB_at ha)
   have HNo:=hid (show upB pla k=false→pb=false from fun h=>by rw [HPB.out,range_no hlt h];simp)
   have hpk:=(HQ.out k a ha).same HI.out.1
   have hk1:(k:Int)<(pla.length:Int):=by omega
   obtain ⟨code,urg,K,cc,kinds⟩:=a
   simp only at q0 q1 q2
   have HKS:=hid (show Sl wr (fun _=>False) 1 K kinds.length (icellsC kinds) from hpk.1)
   have HKL:=hid (show kinds.length≤maxLen from hpk.2.1)
   have HCS:=hid (show code.size≤maxLen from hpk.2.2)
   clear hpk
   have HPL:=hid (show planB ⟨code,urg,K,cc,kinds⟩=(kinds.all kindB && codeB code && (decide (1≤urg) && decide (urg≤5)) && (decide (1≤kinds.length) && decide (kinds.length≤8))) from rfl)
   have HDF:=hid (show ∀ q,diffB ⟨code,urg,K,cc,kinds⟩ q = !(q.code.toList == code.toList && q.urg == urg) from fun q=>rfl)
   generalize planB ⟨code,urg,K,cc,kinds⟩=qb at *
   generalize diffB ⟨code,urg,K,cc,kinds⟩=df at *
   clear ha
   by_cases g0:codeB code=true
   rotate_left 1
   ·have g0':codeB code=false:=by simpa using g0
    go_wp2_with (go_at_call 126;(with_reducible refine (HIC.out _ _ HCS.out).mono ?_);rintro e w9 ⟨rfl,rfl⟩;rw [g0'])
    go_ret
    exact ⟨ret_of (congrArg Value.bool (HNo.out (by rw [HU.out,HPL.out,g0'];simp)).symm),HI.out.1.alloc _⟩
   ·by_cases g1:urg<1
    ·go_wp2_with (go_at_call 126;(with_reducible refine (HIC.out _ _ HCS.out).mono ?_);rintro e w9 ⟨rfl,rfl⟩;rw [g0])
     go_ret
     exact ⟨ret_of (congrArg Value.bool (HNo.out (by rw [HU.out,HPL.out,g0];simp only [show decide (1≤urg)=false from decide_eq_false (by omega)];simp)).symm),HI.out.1.alloc _⟩
    ·by_cases g2:5<urg
     ·go_wp2_with (go_at_call 126;(with_reducible refine (HIC.out _ _ HCS.out).mono ?_);rintro e w9 ⟨rfl,rfl⟩;rw [g0])
      go_ret
      exact ⟨ret_of (congrArg Value.bool (HNo.out (by rw [HU.out,HPL.out,g0];simp only [show decide (1≤urg)=true from decide_eq_true (by omega),show decide (urg≤5)=false from decide_eq_false (by omega)];simp)).symm),HI.out.1.alloc _⟩
     ·by_cases g3:(kinds.length:Int)<1
      ·go_wp2_with (go_at_call 126;(with_reducible refine (HIC.out _ _ HCS.out).mono ?_);rintro e w9 ⟨rfl,rfl⟩;rw [g0])
       go_ret
       exact ⟨ret_of (congrArg Value.bool (HNo.out (by rw [HU.out,HPL.out,g0];simp only [show decide (1≤urg)=true from decide_eq_true (by omega),show decide (urg≤5)=true from decide_eq_true (by omega),show decide (1≤kinds.length)=false from decide_eq_false (by omega)];simp)).symm),HI.out.1.alloc _⟩
      ·by_cases g4:8<(kinds.length:Int)
       ·go_wp2_with (go_at_call 126;(with_reducible refine (HIC.out _ _ HCS.out).mono ?_);rintro e w9 ⟨rfl,rfl⟩;rw [g0])
        go_ret
        exact ⟨ret_of (congrArg Value.bool (HNo.out (by rw [HU.out,HPL.out,g0];simp only [show decide (1≤urg)=true from decide_eq_true (by omega),show decide (urg≤5)=true from decide_eq_true (by omega),show decide (1≤kinds.length)=true from decide_eq_true (by omega),show decide (kinds.length≤8)=false from decide_eq_false (by omega)];simp)).symm),HI.out.1.alloc _⟩
       ·go_wp2_with (go_at_call 126;(with_reducible refine (HIC.out _ _ HCS.out).mono ?_);rintro e w9 ⟨rfl,rfl⟩;rw [g0])
        have HZ:=hid ((Keep.refl (fun _=>False) wr).alloc (.cells #[.string code,.int .i64 urg,.slice K kinds.length cc] 146))
        go_loopw [52] (fun i wk=>∃ j:Nat,j≤kinds.length∧i=.int .i64 j∧wk=wr.alloc (.cells #[.string code,.int .i64 urg,.slice K kinds.length cc] 146)∧Hid ((kinds.take j).all kindB=true)) (fun i _=>kinds.length - (RowKit.intOf i).toNat)
        case atStart=>exact ⟨0,by omega,rfl,rfl,hid (by simp)⟩
        case round =>
         obtain ⟨j,hj,rfl,rfl,HJ⟩:=hrel
         by_cases hltj:j<kinds.length
         ·obtain ⟨a,ha⟩:=get_some (l:=kinds) (k:=j) hltj
          obtain ⟨b2,off2,rfl,hb4,r0⟩:=ints_at (HKS.out.same HZ.out) ha
          have HT:=hid (take_all (p:=kindB) ha)
          have HKo:=hid (fun hp=>all_no (p:=kindB) ha hp)
          have hj1:(j:Int)<(kinds.length:Int):=by omega
          clear ha
          by_cases i1:kindB a=true
          ·go_upto_region 15 with (go_at_call 125;(with_reducible refine (HIK.out _ _).mono ?_);rintro e w9 ⟨rfl,rfl⟩;rw [i1])
           have hj2:(j:Int)+1≤9223372036854775807:=by have:=HKL.out;unfold maxLen at this;omega
           go_wp2_with fail
           go_roundw
           case rel=>exact ⟨j+1,by omega,by go_num,by trivial,hid (by rw [HT.out,HJ.out,i1];rfl)⟩
           case measure=>simp [RowKit.intOf];omega
          ·have i1':kindB a=false:=by simpa using i1
           go_wp2_with (go_at_call 125;(with_reducible refine (HIK.out _ _).mono ?_);rintro e w9 ⟨rfl,rfl⟩;rw [i1'])
           go_ret
           exact ⟨ret_of (congrArg Value.bool (HNo.out (by rw [HU.out,HPL.out,HKo.out i1'];simp)).symm),HI.out.1.alloc _⟩
         ·have hj1:(kinds.length:Int)≤(j:Int):=by omega
          have HKA:=hid (show kinds.all kindB=true by have:=HJ.out;rwa [List.take_of_length_le (by omega)] at this)
          have HQB:=hid (show qb=true by rw [HPL.out,HKA.out,g0];simp only [show decide (1≤urg)=true from decide_eq_true (by omega),show decide (urg≤5)=true from decide_eq_true (by omega),show decide (1≤kinds.length)=true from decide_eq_true (by omega),show decide (kinds.length≤8)=true from decide_eq_true (by omega)];rfl)
          have hcz:=(HZ.out.cell (p:=⟨g,4,none⟩) (show g<wr.heap.size by have:=HI.out.1.size;omega) (fun f=>f)).trans c4
          clear c4
          have hkc:(k:Int)≤(cP:Int):=by have:=HCP.out;omega
          go_wp2_with fail
          have HCO:=hid (show codeB code=true from g0)
          clear g0
          obtain ⟨wo,hwo⟩:∃ x,x=wr:=⟨_,rfl⟩
          subst hwo
          go_loopw [67] (fun i wr=>∃ m:Nat,m≤k∧i=.int .i64 m∧Hid (Same (wo.alloc (.cells #[.string code,.int .i64 urg,.slice K kinds.length cc] 146)) wr∧((pla.take k).take m).all df=true)) (fun i _=>k - (RowKit.intOf i).toNat)
          case atStart=>exact ⟨0,by omega,rfl,hid ⟨Keep.refl _ _,by simp⟩⟩
          case round =>
           obtain ⟨m,hm,rfl,HV⟩:=hrel
           have HSQ:=hid (HZ.out.then HV.out.1)
           have HBO:=hid ((Blk.made wo 146 #[.string code,.int .i64 urg,.slice K kinds.length cc]).keep (S:=fun _=>False) HV.out.1 (fun f=>f))
           have d0:wr.cell? ⟨wo.heap.size,0,none⟩=some (.string code):=(HBO.out.at_ 0).trans rfl
           have d1:wr.cell? ⟨wo.heap.size,1,none⟩=some (.int .i64 urg):=(HBO.out.at_ 1).trans rfl
           have hlq:=HBO.out.lt
           by_cases hltm:m<k
           ·obtain ⟨q,hq⟩:=get_some (l:=pla) (k:=m) (by omega)
            obtain ⟨b5,off5,e5,hb5,s0,s1,s2⟩:=pl_at (HM.out wr (HI.out.1.then HSQ.out)) hq
            injection e5 with e5
            injection e5 with e5 e6
            subst e5 e6
            have hq2:(pla.take k)[m]? = some q:=by rw [List.getElem?_take,if_pos hltm];exact hq
            have HT:=hid (take_all (p:=df) hq2)
            have HDo:=hid (fun hp=>all_no (p:=df) hq2 hp)
            have HDQ:=hid (HDF.out q)
            have hm1:(m:Int)<(k:Int):=by omega
            clear hq hq2
            obtain ⟨qc,qu,qK,qcc,qk⟩:=q
            simp only at s0 s1 s2 HDQ
            have hne:wo.heap.size≠wr.heap.size:=by omega
            by_cases j1:(qc.toList == code.toList)=true
            ·by_cases j2:(qu == urg)=true
             ·go_wp2_with fail
              go_ret
              exact ⟨ret_of (congrArg Value.bool (HNo.out (by rw [HU.out,HDo.out (by rw [HDQ.out,j1,j2];rfl)];simp)).symm),(HI.out.1.then HSQ.out).alloc _⟩
             ·have j3:(qu == urg)=false:=by simpa using j2
              clear j2
              go_upto_region 21 with fail
              have hm2:(m:Int)+1≤9223372036854775807:=by have:=HN.out;unfold maxLen at this;omega
              go_wp2_with fail
              go_roundw
              case rel=>exact ⟨m+1,by omega,by go_num,hid ⟨HV.out.1.alloc _,by rw [HT.out,HV.out.2,HDQ.out,j1,j3];rfl⟩⟩
              case measure=>simp [RowKit.intOf];omega
            ·have j3:(qc.toList == code.toList)=false:=by simpa using j1
             clear j1
             go_upto_region 21 with fail
             have hm2:(m:Int)+1≤9223372036854775807:=by have:=HN.out;unfold maxLen at this;omega
             go_wp2_with fail
             go_roundw
             case rel=>exact ⟨m+1,by omega,by go_num,hid ⟨HV.out.1.alloc _,by rw [HT.out,HV.out.2,HDQ.out,j3];rfl⟩⟩
             case measure=>simp [RowKit.intOf];omega
           ·obtain rfl:m=k:=by omega
            have HUP:=hid (show upB pla m=true by have:=HV.out.2;rw [List.take_of_length_le (by simp;omega)] at this;rw [HU.out,HQB.out,this];rfl)
            go_upto_region 22 with fail
            have hk2:(m:Int)+1≤9223372036854775807:=by have:=HN.out;unfold maxLen at this;omega
            go_wp2_with fail
            go_roundw
            case rel =>
             exact ⟨m+1,by omega,by go_num,hid ⟨HI.out.1.then HSQ.out,by rw [range_snoc,HI.out.2,HUP.out];rfl⟩⟩
            case measure=>simp [RowKit.intOf];omega
  ·have hk1:(pla.length:Int)≤(k:Int):=by omega
   obtain rfl:k=pla.length:=by omega
   have HI2:=HI.out.2
   go_wp2_with fail
   go_ret
   exact ⟨ret_of (congrArg Value.bool (by rw [HPB.out,HI.out.2];simp;omega)),HI.out.1⟩
end
section
variable (w:World)
theorem mkfn (fn:Fn) (first cap:Array Value) (w:World):(Instr.makeFunc fn first cap).run Tryz.prog w=.ok (.func fn first cap) w:=rfl
structure PA where
 name:ByteArray
 lo:Int
 hi:Int
 G:Nat
 b:Nat
def PA.cells (p:PA):List Value:=[.string p.name,.int .i64 p.lo,.int .i64 p.hi,.func (.func p.G) #[] #[.pointer (some ⟨p.b,0,none⟩)],.func (.func (p.G+1)) #[] #[.pointer (some ⟨p.b,0,none⟩)]]
def pacells (l:List PA):List Value:=l.flatMap PA.cells
theorem duration_any (name:ByteArray) (lo hi:Int) (f:Nat):Calls Tryz.prog 136 #[.string name,.int .i64 lo,.int .i64 hi,.func (.func f) #[] #[]] w fun e w'=>e=.returned (.agg (PA.mk name lo hi 149 w.heap.size).cells.toArray)∧Blk w' w.heap.size 218 #[.func (.func f) #[] #[]]∧Same w w':=by
 have hmf:=mkfn
 go_enter Tryz.func136,Tryz.ntmps136
 go_wp2_with fail
 exact bodyPost_ret (v:=.agg (PA.mk name lo hi 149 w.heap.size).cells.toArray) (by simp [results,Tryz.results136,go_sem,PA.cells]) rfl ⟨rfl,(Blk.made w _ _).alloc _,((Keep.refl _ w).alloc _).alloc _⟩
theorem quantity_any (name:ByteArray) (lo hi:Int) (f:Nat):Calls Tryz.prog 145 #[.string name,.int .i64 lo,.int .i64 hi,.func (.func f) #[] #[]] w fun e w'=>e=.returned (.agg (PA.mk name lo hi 151 w.heap.size).cells.toArray)∧Blk w' w.heap.size 221 #[.func (.func f) #[] #[]]∧Same w w':=by
 have hmf:=mkfn
 go_enter Tryz.func145,Tryz.ntmps145
 go_wp2_with fail
 exact bodyPost_ret (v:=.agg (PA.mk name lo hi 151 w.heap.size).cells.toArray) (by simp [results,Tryz.results145,go_sem,PA.cells]) rfl ⟨rfl,(Blk.made w _ _).alloc _,((Keep.refl _ w).alloc _).alloc _⟩
theorem get0_any (g b:Nat) (x:Int) (hb:w.cell? ⟨b,0,none⟩=some (.func (.func 137) #[] #[])) (hx:w.cell? ⟨g,5,none⟩=some (.int .i64 x)):Calls Tryz.prog 149 #[.pointer (some ⟨g,0,none⟩),.pointer (some ⟨b,0,none⟩)] w fun e w'=>e=.returned (.int .i64 x)∧w=w':=by
 go_enter Tryz.func149,Tryz.ntmps149
 go_wp2
 go_ret
 exact ⟨rfl,rfl⟩
theorem get1_any (g b:Nat) (x:Int) (hb:w.cell? ⟨b,0,none⟩=some (.func (.func 138) #[] #[])) (hx:w.cell? ⟨g,6,none⟩=some (.int .i64 x)):Calls Tryz.prog 149 #[.pointer (some ⟨g,0,none⟩),.pointer (some ⟨b,0,none⟩)] w fun e w'=>e=.returned (.int .i64 x)∧w=w':=by
 go_enter Tryz.func149,Tryz.ntmps149
 go_wp2
 go_ret
 exact ⟨rfl,rfl⟩
theorem get2_any (g b:Nat) (x:Int) (hb:w.cell? ⟨b,0,none⟩=some (.func (.func 139) #[] #[])) (hx:w.cell? ⟨g,7,none⟩=some (.int .i64 x)):Calls Tryz.prog 149 #[.pointer (some ⟨g,0,none⟩),.pointer (some ⟨b,0,none⟩)] w fun e w'=>e=.returned (.int .i64 x)∧w=w':=by
 go_enter Tryz.func149,Tryz.ntmps149
 go_wp2
 go_ret
 exact ⟨rfl,rfl⟩
theorem getP3_any (g b:Nat) (x:Int) (hb:w.cell? ⟨b,0,none⟩=some (.func (.func 140) #[] #[])) (hx:w.cell? ⟨g,8,none⟩=some (.int .i64 x)):Calls Tryz.prog 149 #[.pointer (some ⟨g,0,none⟩),.pointer (some ⟨b,0,none⟩)] w fun e w'=>e=.returned (.int .i64 x)∧w=w':=by
 go_enter Tryz.func149,Tryz.ntmps149
 go_wp2
 go_ret
 exact ⟨rfl,rfl⟩
theorem get4_any (g b:Nat) (x:Int) (hb:w.cell? ⟨b,0,none⟩=some (.func (.func 141) #[] #[])) (hx:w.cell? ⟨g,9,none⟩=some (.int .i64 x)):Calls Tryz.prog 149 #[.pointer (some ⟨g,0,none⟩),.pointer (some ⟨b,0,none⟩)] w fun e w'=>e=.returned (.int .i64 x)∧w=w':=by
 go_enter Tryz.func149,Tryz.ntmps149
 go_wp2
 go_ret
 exact ⟨rfl,rfl⟩
theorem get5_any (g b:Nat) (x:Int) (hb:w.cell? ⟨b,0,none⟩=some (.func (.func 142) #[] #[])) (hx:w.cell? ⟨g,10,none⟩=some (.int .i64 x)):Calls Tryz.prog 149 #[.pointer (some ⟨g,0,none⟩),.pointer (some ⟨b,0,none⟩)] w fun e w'=>e=.returned (.int .i64 x)∧w=w':=by
 go_enter Tryz.func149,Tryz.ntmps149
 go_wp2
 go_ret
 exact ⟨rfl,rfl⟩
theorem get6_any (g b:Nat) (x:Int) (hb:w.cell? ⟨b,0,none⟩=some (.func (.func 143) #[] #[])) (hx:w.cell? ⟨g,11,none⟩=some (.int .i64 x)):Calls Tryz.prog 149 #[.pointer (some ⟨g,0,none⟩),.pointer (some ⟨b,0,none⟩)] w fun e w'=>e=.returned (.int .i64 x)∧w=w':=by
 go_enter Tryz.func149,Tryz.ntmps149
 go_wp2
 go_ret
 exact ⟨rfl,rfl⟩
theorem get7_any (g b:Nat) (x:Int) (hb:w.cell? ⟨b,0,none⟩=some (.func (.func 144) #[] #[])) (hx:w.cell? ⟨g,12,none⟩=some (.int .i64 x)):Calls Tryz.prog 149 #[.pointer (some ⟨g,0,none⟩),.pointer (some ⟨b,0,none⟩)] w fun e w'=>e=.returned (.int .i64 x)∧w=w':=by
 go_enter Tryz.func149,Tryz.ntmps149
 go_wp2
 go_ret
 exact ⟨rfl,rfl⟩
theorem get8_any (g b:Nat) (x:Int) (hb:w.cell? ⟨b,0,none⟩=some (.func (.func 146) #[] #[])) (hx:w.cell? ⟨g,13,none⟩=some (.int .i64 x)):Calls Tryz.prog 151 #[.pointer (some ⟨g,0,none⟩),.pointer (some ⟨b,0,none⟩)] w fun e w'=>e=.returned (.int .i64 x)∧w=w':=by
 go_enter Tryz.func151,Tryz.ntmps151
 go_wp2
 go_ret
 exact ⟨rfl,rfl⟩
theorem get9_any (g b:Nat) (x:Int) (hb:w.cell? ⟨b,0,none⟩=some (.func (.func 147) #[] #[])) (hx:w.cell? ⟨g,14,none⟩=some (.int .i64 x)):Calls Tryz.prog 151 #[.pointer (some ⟨g,0,none⟩),.pointer (some ⟨b,0,none⟩)] w fun e w'=>e=.returned (.int .i64 x)∧w=w':=by
 go_enter Tryz.func151,Tryz.ntmps151
 go_wp2
 go_ret
 exact ⟨rfl,rfl⟩
def parF:List Nat:=[137,138,139,140,141,142,143,144,146,147]
def parLH:List (Int × Int):=[(1,1048576),(1,1048576),(1,1048576),(1,1048576),(1,1048576),(1,1048576),(0,1099511627776),(0,1099511627776),(0,256),(1,4096)]
def parG (k:Nat):Nat:=if k<8 then 149 else 151
structure PAs (w:World) (l:List PA):Prop where
 len:l.length=10
 at_:∀ k a,l[k]? = some a→parLH[k]? = some (a.lo,a.hi)∧a.G=parG k∧∃ f,parF[k]? = some f∧w.cell? ⟨a.b,0,none⟩=some (.func (.func f) #[] #[])∧a.b<w.heap.size
def ParPost (w:World) (e:Ending) (w':World):Prop:=∃ g l,e=.returned (.slice (some ⟨g,0,none⟩) 10 10)∧w.heap.size≤g∧Blk w' g 208 (pacells l).toArray∧PAs w' l∧Same w w'
set_option maxRecDepth 100000 in
set_option maxHeartbeats 4000000 in
theorem parameters_any:Calls Tryz.prog 127 #[] w (ParPost w):=by
 go_enter Tryz.func127,Tryz.ntmps127
 go_wp2_with fail
 (with_reducible refine (duration_any _ _ _ _ _).mono ?_)
 rintro e w0 ⟨rfl,hb0,hs0⟩
 have HB0:=hid hb0
 have HS0:=hid hs0
 clear hb0 hs0
 simp only [PA.cells]
 go_wp2_with fail
 (with_reducible refine (duration_any _ _ _ _ _).mono ?_)
 rintro e w1 ⟨rfl,hb1,hs1⟩
 have HB1:=hid hb1
 have HS1:=hid hs1
 clear hb1 hs1
 simp only [PA.cells]
 go_wp2_with fail
 (with_reducible refine (duration_any _ _ _ _ _).mono ?_)
 rintro e w2 ⟨rfl,hb2,hs2⟩
 have HB2:=hid hb2
 have HS2:=hid hs2
 clear hb2 hs2
 simp only [PA.cells]
 go_wp2_with fail
 (with_reducible refine (duration_any _ _ _ _ _).mono ?_)
 rintro e w3 ⟨rfl,hb3,hs3⟩
 have HB3:=hid hb3
 have HS3:=hid hs3
 clear hb3 hs3
 simp only [PA.cells]
 go_wp2_with fail
 (with_reducible refine (duration_any _ _ _ _ _).mono ?_)
 rintro e w4 ⟨rfl,hb4,hs4⟩
 have HB4:=hid hb4
 have HS4:=hid hs4
 clear hb4 hs4
 simp only [PA.cells]
 go_wp2_with fail
 (with_reducible refine (duration_any _ _ _ _ _).mono ?_)
 rintro e w5 ⟨rfl,hb5,hs5⟩
 have HB5:=hid hb5
 have HS5:=hid hs5
 clear hb5 hs5
 simp only [PA.cells]
 go_wp2_with fail
 (with_reducible refine (duration_any _ _ _ _ _).mono ?_)
 rintro e w6 ⟨rfl,hb6,hs6⟩
 have HB6:=hid hb6
 have HS6:=hid hs6
 clear hb6 hs6
 simp only [PA.cells]
 go_wp2_with fail
 (with_reducible refine (duration_any _ _ _ _ _).mono ?_)
 rintro e w7 ⟨rfl,hb7,hs7⟩
 have HB7:=hid hb7
 have HS7:=hid hs7
 clear hb7 hs7
 simp only [PA.cells]
 go_wp2_with fail
 (with_reducible refine (quantity_any _ _ _ _ _).mono ?_)
 rintro e w8 ⟨rfl,hb8,hs8⟩
 have HB8:=hid hb8
 have HS8:=hid hs8
 clear hb8 hs8
 simp only [PA.cells]
 go_wp2_with fail
 (with_reducible refine (quantity_any _ _ _ _ _).mono ?_)
 rintro e w9 ⟨rfl,hb9,hs9⟩
 have HB9:=hid hb9
 have HS9:=hid hs9
 clear hb9 hs9
 simp only [PA.cells]
 have H9:=hid (Keep.refl (fun _=>False) w9)
 have H8:=hid (HS9.out.then H9.out)
 have H7:=hid (HS8.out.then H8.out)
 have H6:=hid (HS7.out.then H7.out)
 have H5:=hid (HS6.out.then H6.out)
 have H4:=hid (HS5.out.then H5.out)
 have H3:=hid (HS4.out.then H4.out)
 have H2:=hid (HS3.out.then H3.out)
 have H1:=hid (HS2.out.then H2.out)
 have H0:=hid (HS1.out.then H1.out)
 have HW:=hid (HS0.out.then H0.out)
 go_wp2_with (refine Great.wpList_buildSliceTo rfl 203 208 10 _ rfl _ rfl (some 11) rfl Tryz.underlying203 (pacells [PA.mk ⟨#[98,101,97,116]⟩ 1 1048576 149 w.heap.size,PA.mk ⟨#[112,97,116,105,101,110,99,101]⟩ 1 1048576 149 w0.heap.size,PA.mk ⟨#[101,108,101,99,116,105,111,110]⟩ 1 1048576 149 w1.heap.size,PA.mk ⟨#[108,101,97,115,101]⟩ 1 1048576 149 w2.heap.size,PA.mk ⟨#[115,105,108,101,110,99,101]⟩ 1 1048576 149 w3.heap.size,PA.mk ⟨#[97,103,97,105,110]⟩ 1 1048576 149 w4.heap.size,PA.mk ⟨#[110,101,97,114]⟩ 0 1099511627776 149 w5.heap.size,PA.mk ⟨#[119,105,110,100,111,119]⟩ 0 1099511627776 149 w6.heap.size,PA.mk ⟨#[114,101,115,101,114,118,101]⟩ 0 256 151 w7.heap.size,PA.mk ⟨#[114,111,111,109]⟩ 1 4096 151 w8.heap.size]).toArray (by kernel_rfl) ?_)
 go_ret
 have hsz:w.heap.size≤w9.heap.size:=HW.out.size
 refine ⟨w9.heap.size,[PA.mk ⟨#[98,101,97,116]⟩ 1 1048576 149 w.heap.size,PA.mk ⟨#[112,97,116,105,101,110,99,101]⟩ 1 1048576 149 w0.heap.size,PA.mk ⟨#[101,108,101,99,116,105,111,110]⟩ 1 1048576 149 w1.heap.size,PA.mk ⟨#[108,101,97,115,101]⟩ 1 1048576 149 w2.heap.size,PA.mk ⟨#[115,105,108,101,110,99,101]⟩ 1 1048576 149 w3.heap.size,PA.mk ⟨#[97,103,97,105,110]⟩ 1 1048576 149 w4.heap.size,PA.mk ⟨#[110,101,97,114]⟩ 0 1099511627776 149 w5.heap.size,PA.mk ⟨#[119,105,110,100,111,119]⟩ 0 1099511627776 149 w6.heap.size,PA.mk ⟨#[114,101,115,101,114,118,101]⟩ 0 256 151 w7.heap.size,PA.mk ⟨#[114,111,111,109]⟩ 1 4096 151 w8.heap.size],rfl,hsz,Blk.made w9 _ _,⟨rfl,fun k a hk=>?_⟩,HW.out.alloc _⟩
 have hk1:=(List.getElem?_eq_some_iff.1 hk).1
 have hk2:k<10:=hk1
 have fin:∀ (k b f t:Nat) (wq:World) (_:Same wq w9) (_:Blk wq b t #[.func (.func f) #[] #[]]) ,(w9.alloc (.cells (pacells [PA.mk ⟨#[98,101,97,116]⟩ 1 1048576 149 w.heap.size,PA.mk ⟨#[112,97,116,105,101,110,99,101]⟩ 1 1048576 149 w0.heap.size,PA.mk ⟨#[101,108,101,99,116,105,111,110]⟩ 1 1048576 149 w1.heap.size,PA.mk ⟨#[108,101,97,115,101]⟩ 1 1048576 149 w2.heap.size,PA.mk ⟨#[115,105,108,101,110,99,101]⟩ 1 1048576 149 w3.heap.size,PA.mk ⟨#[97,103,97,105,110]⟩ 1 1048576 149 w4.heap.size,PA.mk ⟨#[110,101,97,114]⟩ 0 1099511627776 149 w5.heap.size,PA.mk ⟨#[119,105,110,100,111,119]⟩ 0 1099511627776 149 w6.heap.size,PA.mk ⟨#[114,101,115,101,114,118,101]⟩ 0 256 151 w7.heap.size,PA.mk ⟨#[114,111,111,109]⟩ 1 4096 151 w8.heap.size]).toArray 208)).cell? ⟨b,0,none⟩=some (.func (.func f) #[] #[])∧b<(w9.alloc (.cells (pacells [PA.mk ⟨#[98,101,97,116]⟩ 1 1048576 149 w.heap.size,PA.mk ⟨#[112,97,116,105,101,110,99,101]⟩ 1 1048576 149 w0.heap.size,PA.mk ⟨#[101,108,101,99,116,105,111,110]⟩ 1 1048576 149 w1.heap.size,PA.mk ⟨#[108,101,97,115,101]⟩ 1 1048576 149 w2.heap.size,PA.mk ⟨#[115,105,108,101,110,99,101]⟩ 1 1048576 149 w3.heap.size,PA.mk ⟨#[97,103,97,105,110]⟩ 1 1048576 149 w4.heap.size,PA.mk ⟨#[110,101,97,114]⟩ 0 1099511627776 149 w5.heap.size,PA.mk ⟨#[119,105,110,100,111,119]⟩ 0 1099511627776 149 w6.heap.size,PA.mk ⟨#[114,101,115,101,114,118,101]⟩ 0 256 151 w7.heap.size,PA.mk ⟨#[114,111,111,109]⟩ 1 4096 151 w8.heap.size]).toArray 208)).heap.size:=by
  intro k b f t wq h1 h2
  have h3:=(h2.keep h1 (fun h=>h)).alloc (.cells (pacells [PA.mk ⟨#[98,101,97,116]⟩ 1 1048576 149 w.heap.size,PA.mk ⟨#[112,97,116,105,101,110,99,101]⟩ 1 1048576 149 w0.heap.size,PA.mk ⟨#[101,108,101,99,116,105,111,110]⟩ 1 1048576 149 w1.heap.size,PA.mk ⟨#[108,101,97,115,101]⟩ 1 1048576 149 w2.heap.size,PA.mk ⟨#[115,105,108,101,110,99,101]⟩ 1 1048576 149 w3.heap.size,PA.mk ⟨#[97,103,97,105,110]⟩ 1 1048576 149 w4.heap.size,PA.mk ⟨#[110,101,97,114]⟩ 0 1099511627776 149 w5.heap.size,PA.mk ⟨#[119,105,110,100,111,119]⟩ 0 1099511627776 149 w6.heap.size,PA.mk ⟨#[114,101,115,101,114,118,101]⟩ 0 256 151 w7.heap.size,PA.mk ⟨#[114,111,111,109]⟩ 1 4096 151 w8.heap.size]).toArray 208)
  exact ⟨by rw [h3.at_];rfl,h3.lt⟩
 obtain rfl | rfl | rfl | rfl | rfl | rfl | rfl | rfl | rfl | rfl:k=0∨k=1∨k=2∨k=3∨k=4∨k=5∨k=6∨k=7∨k=8∨k=9:=by omega
 ·obtain rfl:=Option.some.inj hk
  exact ⟨rfl,rfl,_,rfl,fin 0 _ _ _ _ H0.out HB0.out⟩
 ·obtain rfl:=Option.some.inj hk
  exact ⟨rfl,rfl,_,rfl,fin 0 _ _ _ _ H1.out HB1.out⟩
 ·obtain rfl:=Option.some.inj hk
  exact ⟨rfl,rfl,_,rfl,fin 0 _ _ _ _ H2.out HB2.out⟩
 ·obtain rfl:=Option.some.inj hk
  exact ⟨rfl,rfl,_,rfl,fin 0 _ _ _ _ H3.out HB3.out⟩
 ·obtain rfl:=Option.some.inj hk
  exact ⟨rfl,rfl,_,rfl,fin 0 _ _ _ _ H4.out HB4.out⟩
 ·obtain rfl:=Option.some.inj hk
  exact ⟨rfl,rfl,_,rfl,fin 0 _ _ _ _ H5.out HB5.out⟩
 ·obtain rfl:=Option.some.inj hk
  exact ⟨rfl,rfl,_,rfl,fin 0 _ _ _ _ H6.out HB6.out⟩
 ·obtain rfl:=Option.some.inj hk
  exact ⟨rfl,rfl,_,rfl,fin 0 _ _ _ _ H7.out HB7.out⟩
 ·obtain rfl:=Option.some.inj hk
  exact ⟨rfl,rfl,_,rfl,fin 0 _ _ _ _ H8.out HB8.out⟩
 ·obtain rfl:=Option.some.inj hk
  exact ⟨rfl,rfl,_,rfl,fin 0 _ _ _ _ H9.out HB9.out⟩
end
section
variable (w:World)
theorem pa_at {w:World} {g:Nat} {t:TypeId} {l:List PA} (h:Blk w g t (pacells l).toArray) {k:Nat} {a:PA} (ha:l[k]? = some a):w.cell? ⟨g,k * 5,none⟩=some (.string a.name) ∧
 w.cell? ⟨g,k * 5+1,none⟩=some (.int .i64 a.lo)∧w.cell? ⟨g,k * 5+2,none⟩=some (.int .i64 a.hi)∧w.cell? ⟨g,k * 5+3,none⟩=some (.func (.func a.G) #[] #[.pointer (some ⟨a.b,0,none⟩)]) ∧
 w.cell? ⟨g,k * 5+4,none⟩=some (.func (.func (a.G+1)) #[] #[.pointer (some ⟨a.b,0,none⟩)]):=by
 have g:=fun j (hj:j<5) u (hu:a.cells[j]? = some u)=>(h.at_ (k * 5+j)).trans (show (pacells l).toArray[k * 5+j]? = some u by
  rw [List.getElem?_toArray,show (pacells l)[k * 5+j]? = (l[k]?).bind (fun a=>a.cells[j]?) from flat_get PA.cells 5 (fun _=>rfl) l k j hj,ha];exact hu)
 exact ⟨g 0 (by omega) _ rfl,g 1 (by omega) _ rfl,g 2 (by omega) _ rfl,g 3 (by omega) _ rfl,g 4 (by omega) _ rfl⟩
theorem getd_any (k g b f:Nat) (x:Int) (h1:0≤k) (h2:k<8) (hf:parF[k]? = some f) (hb:w.cell? ⟨b,0,none⟩=some (.func (.func f) #[] #[])) (hx:w.cell? ⟨g,k+5,none⟩=some (.int .i64 x)):Calls Tryz.prog 149 #[.pointer (some ⟨g,0,none⟩),.pointer (some ⟨b,0,none⟩)] w fun e w'=>e=.returned (.int .i64 x)∧w=w':=by
 obtain rfl | rfl | rfl | rfl | rfl | rfl | rfl | rfl:k=0∨k=1∨k=2∨k=3∨k=4∨k=5∨k=6∨k=7:=by omega
 ·obtain rfl:=Option.some.inj hf
  exact get0_any w g b x hb hx
 ·obtain rfl:=Option.some.inj hf
  exact get1_any w g b x hb hx
 ·obtain rfl:=Option.some.inj hf
  exact get2_any w g b x hb hx
 ·obtain rfl:=Option.some.inj hf
  exact getP3_any w g b x hb hx
 ·obtain rfl:=Option.some.inj hf
  exact get4_any w g b x hb hx
 ·obtain rfl:=Option.some.inj hf
  exact get5_any w g b x hb hx
 ·obtain rfl:=Option.some.inj hf
  exact get6_any w g b x hb hx
 ·obtain rfl:=Option.some.inj hf
  exact get7_any w g b x hb hx
theorem getq_any (k g b f:Nat) (x:Int) (h1:8≤k) (h2:k<10) (hf:parF[k]? = some f) (hb:w.cell? ⟨b,0,none⟩=some (.func (.func f) #[] #[])) (hx:w.cell? ⟨g,k+5,none⟩=some (.int .i64 x)):Calls Tryz.prog 151 #[.pointer (some ⟨g,0,none⟩),.pointer (some ⟨b,0,none⟩)] w fun e w'=>e=.returned (.int .i64 x)∧w=w':=by
 obtain rfl | rfl:k=8∨k=9:=by omega
 ·obtain rfl:=Option.some.inj hf
  exact get8_any w g b x hb hx
 ·obtain rfl:=Option.some.inj hf
  exact get9_any w g b x hb hx
theorem par_row (c:CF) {k:Nat} {lo hi:Int} (h:parLH[k]? = some (lo,hi)):∃ x,(parsL c)[k]? = some (lo,hi,x)∧c.cells.toArray[k+5]? = some (.int .i64 x):=by
 have hk:k<10:=(List.getElem?_eq_some_iff.1 h).1
 obtain rfl | rfl | rfl | rfl | rfl | rfl | rfl | rfl | rfl | rfl:k=0∨k=1∨k=2∨k=3∨k=4∨k=5∨k=6∨k=7∨k=8∨k=9:=by omega
 all_goals (cases Option.some.inj h;exact ⟨_,rfl,rfl⟩)
set_option maxHeartbeats 4000000 in
set_option maxRecDepth 100000 in
theorem validPars_any (g:Nat) (c:CF) (hb:Blk w g 27 c.cells.toArray):Calls Tryz.prog 95 #[.pointer (some ⟨g,0,none⟩)] w fun e w'=>e=.returned (.bool (parB c))∧Same w w':=by
 have HB:=hid hb
 have HP:=hid (fun k a (ha:(parsL c)[k]? = some a)=>And.intro (take_all (p:=fun x=>rngB x.1 x.2.1 x.2.2) ha) (all_no (p:=fun x=>rngB x.1 x.2.1 x.2.2) ha))
 have hpl:(parsL c).length=10:=rfl
 have HPL:=hid hpl
 have HPB:=hid (show parB c=(parsL c).all (fun x=>rngB x.1 x.2.1 x.2.2) from rfl)
 have HR:=hid (fun k lo hi (h:parLH[k]? = some (lo,hi))=>par_row c h)
 clear hpl hb
 generalize parsL c=L at *
 generalize parB c=pb at *
 go_enter Tryz.func95,Tryz.ntmps95
 go_wp2_with fail
 (with_reducible refine (parameters_any _).mono ?_)
 rintro e w1 ⟨gp,l,rfl,hgp,hbp,hpa,hs1⟩
 have HBP:=hid hbp
 have HPA:=hid hpa
 have HS:=hid hs1
 clear hbp hpa hs1 hgp
 go_wp2_with fail
 go_loopw [8] (fun i wr=>∃ k:Nat,k≤10∧i=.int .i64 k∧Hid (Same w1 wr∧(L.take k).all (fun x=>rngB x.1 x.2.1 x.2.2)=true)) (fun i _=>10 - (RowKit.intOf i).toNat)
 case atStart=>exact ⟨0,by omega,rfl,hid ⟨Keep.refl _ w1,by simp⟩⟩
 case round =>
  obtain ⟨k,hk,rfl,HI⟩:=hrel
  by_cases hlt:k<10
  ·obtain ⟨a,ha⟩:=get_some (l:=l) (k:=k) (by rw [HPA.out.len];omega)
   obtain ⟨q0,q1,q2,q3,q4⟩:=pa_at (HBP.out.keep HI.out.1 (fun f=>f)) ha
   have hbr:=(HBP.out.keep HI.out.1 (fun f=>f)).lt
   obtain ⟨p1,p2,f,p3,p4,p5⟩:=HPA.out.at_ k a ha
   obtain ⟨x,hx1,hx2⟩:=HR.out k a.lo a.hi p1
   have HX:=hid (HP.out k _ hx1)
   have HCB:=hid (fun W (hk:Same wr W)=>((HI.out.1.then hk).cell (p:=⟨a.b,0,none⟩) p5 (fun f=>f)).trans p4)
   have HCG:=hid (fun W (hk:Same wr W)=>show W.cell? ⟨g,k+5,none⟩=some (.int .i64 x) from ((HB.out.keep (HS.out.then (HI.out.1.then hk)) (fun f=>f)).at_ (k+5)).trans hx2)
   have HF:=hid p3
   clear p1 p3 p4 p5 hx1 hx2 ha
   obtain ⟨nm,lo,hi,G,b⟩:=a
   simp only at q0 q1 q2 q3 q4 p2 HX HCB
   have hk1:(k:Int)<10:=by omega
   by_cases h8:k<8
   ·obtain rfl:G=149:=by rw [p2,parG,if_pos h8]
    clear p2
    go_wp2_with fail
    (with_reducible refine (getd_any _ k g b f x (by omega) (by omega) HF.out (HCB.out _ (Keep.alloc (Keep.refl _ _) _)) (HCG.out _ (Keep.alloc (Keep.refl _ _) _))).mono ?_)
    rintro e w9 ⟨rfl,rfl⟩
    by_cases i1:x<lo
    ·go_wp2_with fail
     go_ret
     exact ⟨ret_of (congrArg Value.bool (by rw [HPB.out];exact (HX.out.2 (by simp [rngB];omega)).symm)),HS.out.then (HI.out.1.alloc _)⟩
    ·by_cases i2:hi<x
     ·go_wp2_with fail
      go_ret
      exact ⟨ret_of (congrArg Value.bool (by rw [HPB.out];exact (HX.out.2 (by simp [rngB];omega)).symm)),HS.out.then (HI.out.1.alloc _)⟩
     ·go_wp2_with fail
      go_roundw
      case rel=>exact ⟨k+1,by omega,by go_num,hid ⟨HI.out.1.alloc _,by rw [HX.out.1,HI.out.2];simp [rngB];omega⟩⟩
      case measure=>simp [RowKit.intOf];omega
   ·obtain rfl:G=151:=by rw [p2,parG,if_neg h8]
    clear p2
    go_wp2_with fail
    (with_reducible refine (getq_any _ k g b f x (by omega) (by omega) HF.out (HCB.out _ (Keep.alloc (Keep.refl _ _) _)) (HCG.out _ (Keep.alloc (Keep.refl _ _) _))).mono ?_)
    rintro e w9 ⟨rfl,rfl⟩
    by_cases i1:x<lo
    ·go_wp2_with fail
     go_ret
     exact ⟨ret_of (congrArg Value.bool (by rw [HPB.out];exact (HX.out.2 (by simp [rngB];omega)).symm)),HS.out.then (HI.out.1.alloc _)⟩
    ·by_cases i2:hi<x
     ·go_wp2_with fail
      go_ret
      exact ⟨ret_of (congrArg Value.bool (by rw [HPB.out];exact (HX.out.2 (by simp [rngB];omega)).symm)),HS.out.then (HI.out.1.alloc _)⟩
     ·go_wp2_with fail
      go_roundw
      case rel=>exact ⟨k+1,by omega,by go_num,hid ⟨HI.out.1.alloc _,by rw [HX.out.1,HI.out.2];simp [rngB];omega⟩⟩
      case measure=>simp [RowKit.intOf];omega
  ·obtain rfl:k=10:=by omega
   have hf:=HI.out.2
   rw [List.take_of_length_le (by rw [HPL.out];omega),←HPB.out] at hf
   go_wp2_with fail
   go_ret
   exact ⟨ret_of (congrArg Value.bool hf.symm),HS.out.then HI.out.1⟩
end
end Go.Proofs.YtbjddfiledoaoaaGreat

import Derived.Test.YtbjddfiledoaoaaGreatMore
import Derived.Laws.BytesArg
namespace Go.Proofs.YtbjddfiledoaoaaGreat
open Go.RowKit
theorem u_str:Tryz.prog.underlying 9=some .string:=by kernel_rfl
set_option maxHeartbeats 1000000 in
theorem wBytes_any (w:World) (wb:Nat) (r:Option Nat) (A:Option Addr) (c:Nat) (bs:List UInt8) (h:Wr w wb r A c bs) (hn:bs.length≤100000000) (B:Option Addr) (m d:Nat) (l:List UInt8) (hB:Sl w (fun i=>i=wb∨some i=r) 1 B m (bcells l)) (hm:m≤1000000) :
 Calls Tryz.prog 75 #[.pointer (some ⟨wb,0,none⟩),.slice B m d] w (WPost w wb r (bs++encD l)):=by
 have hml:l.length=m:=by have:=hB.len;simpa [bcells] using this
 have HL:=hid h.lt
 have H1:=hid (wInt_any w wb r A c bs h (by omega) m (by omega) (by omega))
 have HB:=hid hB
 have hie:=encI_le (n:=(m:Int)) ⟨by omega,by omega⟩
 have HE:=hid (show bs++encD l=bs++encI (m:Int)++l by rw [encD,hml];simp)
 have hel:(bs++encI (m:Int)).length≤100000010:=by simp;omega
 rw [HE.out]
 generalize bs++encI (m:Int)=bs1 at *
 clear h hB hie HE
 go_enter Tryz.func75,Tryz.ntmps75
 go_wp2_with fail
 refine H1.out.mono ?_
 rintro e w1 ⟨r1,A1,c1,rfl,hW,hK,hg⟩
 have c0:=hW.c0
 have hz:=hW.top.lt
 have hS1:=HB.out.keep hK (fun i _ hs=>hs)
 have hk:Same w1 w1:=Keep.refl _ _
 have HO:=hid hW.row
 have HW:=hid hW
 have HK:=hid hK
 have HG:=hid hg
 have HS:=hid (hS1.src hk)
 clear hW hK hg hS1 H1
 go_wp2_with (
  at_builtin
  refine EBy.law2 (.tmp 12) (.tmp 13) (.slice A1 bs1.length c1) B m d rfl rfl rfl rfl 0 bs1.length (bcells bs1) (bcells l) (bs1.length+m) _ rfl rfl HO.out (by rw [bcells_len];omega) HS.out (bcells_one l) (by omega) (by unfold maxLen;omega) (Nat.zero_le _) ?_
  intro A' c' w2 ho hg hw
  obtain ⟨hp1,hp2,hp3,hp4,hp5⟩:=HW.out.push (bs':=bs1++l) hk (by rw [bcells_app]) (by simp;omega) ho hg hw
  have HP:=hid (And.intro hp1 (And.intro hp2 hp3))
  clear ho hg hw hp1 hp2 hp3)
 go_end0
 have hq:=WPost.next HL.out HK.out HG.out HP.out.2.1 HP.out.2.2
 exact ⟨_,A',c',rfl,HP.out.1,hq.1,hq.2⟩
set_option maxHeartbeats 1000000 in
theorem wString_any (w:World) (wb:Nat) (r:Option Nat) (A:Option Addr) (c:Nat) (bs:List UInt8) (h:Wr w wb r A c bs) (hn:bs.length≤100000000) (s:ByteArray) (hm:s.size≤1000000) :
 Calls Tryz.prog 123 #[.pointer (some ⟨wb,0,none⟩),.string s] w (WPost w wb r (bs++encD s.data.toList)):=by
 have hml:s.data.toList.length=s.size:=Array.length_toList
 have HL:=hid h.lt
 have H1:=hid (wInt_any w wb r A c bs h (by omega) s.size (by omega) (by omega))
 have hie:=encI_le (n:=(s.size:Int)) ⟨by omega,by omega⟩
 have HE:=hid (show bs++encD s.data.toList=bs++encI (s.size:Int)++s.data.toList by rw [encD,hml];simp)
 have hel:(bs++encI (s.size:Int)).length≤100000010:=by simp;omega
 rw [HE.out]
 generalize bs++encI (s.size:Int)=bs1 at *
 have Hml:=hid hml
 clear h hie HE hml
 go_enter Tryz.func123,Tryz.ntmps123
 go_wp2_with fail
 refine H1.out.mono ?_
 rintro e w1 ⟨r1,A1,c1,rfl,hW,hK,hg⟩
 have c0:=hW.c0
 have hz:=hW.top.lt
 have hk:Same w1 w1:=Keep.refl _ _
 have HO:=hid hW.row
 have HW:=hid hW
 have HK:=hid hK
 have HG:=hid hg
 clear hW hK hg H1
 go_wp2_with (
  at_builtin
  refine EBy.lawStr u_str (.tmp 12) (.tmp 13) (.slice A1 bs1.length c1) s rfl rfl rfl rfl 0 bs1.length (bcells bs1) (bs1.length+s.size) _ rfl rfl HO.out (by omega) (by unfold maxLen;omega) (Nat.zero_le _) ?_
  intro A' c' w2 ho hg hw
  obtain ⟨hp1,hp2,hp3,hp4,hp5⟩:=HW.out.push (bs':=bs1++s.data.toList) hk (by rw [bcells_app]) (by rw [List.length_append,Hml.out]) ho hg hw
  have HP:=hid (And.intro hp1 (And.intro hp2 hp3))
  clear ho hg hw hp1 hp2 hp3)
 go_end0
 have hq:=WPost.next HL.out HK.out HG.out HP.out.2.1 HP.out.2.2
 exact ⟨_,A',c',rfl,HP.out.1,hq.1,hq.2⟩
theorem encIs_snoc (l:List Int) (x:Int):encIs (l++[x])=encIs l++encI x:=by simp [encIs]
theorem encIs_le (l:List Int) (h:∀ x∈l,i64ok x):(encIs l).length≤l.length * 10:=by
 induction l with
 | nil=>simp [encIs]
 | cons x l ih =>
   rw [encIs_cons,List.length_append,List.length_cons]
   have:=ih (fun y hy=>h y (by simp [hy]))
   have:=encI_le (h x (by simp))
   omega
def WIs (w:World) (wb:Nat) (r:Option Nat) (bs:List UInt8) (wr:World):Prop :=
 ∃ (r' A':Option _) (c':Nat),Wr wr wb r' A' c' bs∧Keep (fun i=>i=wb∨some i=r) w wr∧(∀ g,r'=some g→r=some g∨w.heap.size≤g)
set_option maxHeartbeats 1000000 in
theorem wInts_any (w:World) (wb:Nat) (r:Option Nat) (A:Option Addr) (c:Nat) (bs:List UInt8) (h:Wr w wb r A c bs) (hn:bs.length≤100000000) (B:Option Addr) (m d:Nat) (l:List Int) (hB:Sl w (fun i=>i=wb∨some i=r) 1 B m (l.map (.int .i64))) (hm:m≤1000000) (hok:∀ x∈l,i64ok x) :
 Calls Tryz.prog 78 #[.pointer (some ⟨wb,0,none⟩),.slice B m d] w (WPost w wb r (bs++encL l)):=by
 have hml:l.length=m:=by have:=hB.len;simpa using this
 have HL:=hid h.lt
 have H1:=hid (wInt_any w wb r A c bs h (by omega) m (by omega) (by omega))
 have HB:=hid hB
 have HOK:=hid hok
 have hie:=encI_le (n:=(m:Int)) ⟨by omega,by omega⟩
 have HE:=hid (show bs++encL l=bs++encI (m:Int)++encIs l by rw [encL,hml];simp)
 have hel:(bs++encI (m:Int)).length≤100000010:=by simp;omega
 rw [HE.out]
 generalize bs++encI (m:Int)=bs1 at *
 have Hml:=hid hml
 clear h hB hie HE hok hml
 go_enter Tryz.func78,Tryz.ntmps78
 go_wp2_with fail
 refine H1.out.mono ?_
 rintro e w1 ⟨r1,A1,c1,rfl,hW,hK,hg⟩
 have HS0:Hid (WIs w wb r (bs1++encIs (l.take 0)) w1):=hid ⟨r1,A1,c1,by simpa [encIs] using hW,hK,hg⟩
 clear hW hK hg H1
 go_wp2
 go_loopw [12] (fun i wr=>∃ k:Nat,k≤m∧i=.int .i64 k∧WIs w wb r (bs1++encIs (l.take k)) wr) (fun i _=>m - (RowKit.intOf i).toNat)
 case atStart=>exact ⟨0,by omega,rfl,HS0.out⟩
 case round =>
  obtain ⟨k,hkm,rfl,r2,A2,c2,hW,hK,hg⟩:=hrel
  have HK:=hid hK
  have HG:=hid hg
  by_cases hlt:k<m
  ·obtain ⟨x,hx⟩:=get_some (l:=l) (k:=k) (by have:=Hml.out;omega)
   have hxo:=HOK.out x (List.mem_of_getElem? hx)
   have hx0:wr.cell? ((B.getD ⟨0,0,none⟩).add k)=some (.int .i64 x):=by
    obtain ⟨b,off,rfl,hb,ha,hr⟩:=HB.out.at_ (by omega)
    show wr.cell? ((⟨b,off,none⟩:Addr).add k)=_
    rw [add_blk]
    exact (hK.cell (p:=⟨b,off+k,none⟩) hb ha).trans (hr k _ (by simp [hx]))
   have HN:=hid (show bs1++encIs (l.take (k+1))=bs1++encIs (l.take k)++encI x by rw [take_snoc hx,encIs_snoc];simp)
   have hle:(bs1++encIs (l.take k)).length≤1000000000:=by
    have:=encIs_le (l.take k) (fun y hy=>HOK.out y (List.mem_of_mem_take hy))
    simp at this ⊢;omega
   have HI:=hid (wInt_any wr wb r2 A2 c2 _ hW hle x hxo.1 hxo.2)
   obtain ⟨b,off,rfl,hb,ha,_⟩:=HB.out.at_ (by omega)
   rw [Option.getD_some,add_blk] at hx0
   clear hW hK hg hx hle hxo
   go_wp2_with fail
   refine HI.out.mono ?_
   rintro e w3 ⟨r3,A3,c3,rfl,hW3,hK3,hg3⟩
   have hq:=WPost.next HL.out HK.out HG.out hK3 hg3
   have HQ:Hid (WIs w wb r (bs1++encIs (l.take (k+1))) w3):=hid ⟨r3,A3,c3,by rw [HN.out];exact hW3,hq.1,hq.2⟩
   clear hW3 hK3 hg3 hq
   go_wp2
   go_roundw
   case rel=>exact ⟨k+1,by omega,by go_num,HQ.out⟩
   case measure=>simp [RowKit.intOf];omega
  ·have e1:l.take k=l:=List.take_of_length_le (by have:=Hml.out;omega)
   rw [e1] at hW
   have HW:=hid hW
   clear hW hK hg e1
   go_wp2
   go_end0
   exact ⟨_,_,_,rfl,HW.out,HK.out,HG.out⟩
def NewBytes (w:World) (bs:List UInt8) (e:Ending) (w':World):Prop :=
 e=.returned (.slice (some ⟨w.heap.size,0,none⟩) bs.length bs.length)∧Blk w' w.heap.size 5 (bcells bs).toArray∧Same w w'
set_option maxHeartbeats 1000000 in
theorem encoded_any (w:World) (wb:Nat) (r:Option Nat) (A:Option Addr) (c:Nat) (bs:List UInt8) (h:Wr w wb r A c bs) (hn:bs.length≤1000000000) :
 Calls Tryz.prog 81 #[.pointer (some ⟨wb,0,none⟩)] w (NewBytes w bs):=by
 have H:=hid h
 have c0:=h.c0
 have hz:=h.top.lt
 have hmk:=EBy.make .i64 .i64 (bs.length:Int) (bs.length:Int) (by omega) (by omega) (by omega) (by omega) w
 simp only [Int.toNat_natCast,Nat.mul_one] at hmk
 have hB:=Blk.made w 5 (madeCells (Value.int .u8 0).cells bs.length)
 have hk:Same w (w.alloc (.cells (madeCells (Value.int .u8 0).cells bs.length) 5)):=(Keep.refl _ w).alloc _
 have HB:=hid hB
 have HK:=hid hk
 have HS:=hid (h.sl.wide (Av':=fun i=>i=wb∨¬some i=r) (fun _ _ h=>h))
 have hcs:(madeCells (Value.int .u8 0).cells bs.length).size=bs.length:=by simp [madeCells,Value.cells]
 have HC:=hid hcs
 have c1:(w.alloc (.cells (madeCells (Value.int .u8 0).cells bs.length) 5)).cell? ⟨wb,0,none⟩=some (.slice A bs.length c):=(H.out.same hk).c0
 clear h hB hk hcs
 generalize madeCells (Value.int .u8 0).cells bs.length=cur at *
 go_enter Tryz.func81,Tryz.ntmps81
 go_wp2_with (with_reducible refine copy_all EBy (.tmp 10) (.tmp 14) w.heap.size bs.length bs.length A bs.length c rfl rfl rfl rfl cur HB.out HC.out _ (bcells bs) (HS.out.keep HK.out (fun _ _ f=>f.elim)) (Nat.le_refl _) (bcells_one bs) ?_)
 intro w2 hB2 hK2
 have e1:(bcells bs).take bs.length=bcells bs:=List.take_of_length_le (by rw [bcells_len];omega)
 rw [e1] at hB2
 have HB2:=hid hB2
 have HK2:=hid (HK.out.trans hK2 (fun i hi e=>by omega))
 clear hB2 hK2 e1
 go_wp2
 go_ret
 exact ⟨rfl,HB2.out,HK2.out⟩
structure Rd (w:World) (rb:Nat) (Av:Nat→Prop) (A:Option Addr) (n c:Nat) (s:RS):Prop where
 top:Blk w rb 162 #[.slice A n c,.int .i64 s.err]
 sl:Sl w (fun i=>Av i∨i=rb) 1 A n (bcells s.rest)
 cap:n≤c
 av:¬Av rb
section
variable {w w':World} {S Av Av':Nat→Prop} {rb:Nat} {A:Option Addr} {n c:Nat} {s:RS}
theorem Rd.len (h:Rd w rb Av A n c s):s.rest.length=n:=by have:=h.sl.len;simpa [bcells] using this
theorem Rd.keep (h:Rd w rb Av A n c s) (hk:Keep S w w') (hS:∀ i,i<w.heap.size→S i→Av i):Rd w' rb Av A n c s :=
 ⟨h.top.keep hk (fun hs=>h.av (hS _ h.top.lt hs)),h.sl.keep hk (fun i hi hs=>.inl (hS i hi hs)),h.cap,h.av⟩
theorem Rd.same (h:Rd w rb Av A n c s) (hk:Same w w'):Rd w' rb Av A n c s:=h.keep hk (fun _ _ f=>f.elim)
theorem Rd.wide (h:Rd w rb Av A n c s) (hS:∀ i,i<w.heap.size→Av' i→Av i):Rd w rb Av' A n c s :=
 ⟨h.top,h.sl.wide (fun i hi hs=>hs.elim (fun a=>.inl (hS i hi a)) .inr),h.cap,fun a=>h.av (hS _ h.top.lt a)⟩
end
def NewRd (w:World) (bs:List UInt8) (e:Ending) (w':World):Prop :=
 ∃ rb A c,e=.returned (.pointer (some ⟨rb,0,none⟩))∧w.heap.size≤rb∧Rd w' rb (· < w.heap.size) A bs.length c ⟨bs,0⟩∧Same w w'
set_option maxHeartbeats 1000000 in
theorem newReader_any (w:World) (Av:Nat→Prop) (A:Option Addr) (n c:Nat) (bs:List UInt8) (h:Sl w Av 1 A n (bcells bs)) (hn:n≤1000000000) :
 Calls Tryz.prog 47 #[.slice A n c] w (NewRd w bs):=by
 have hl:bs.length=n:=by have:=h.len;simpa [bcells] using this
 have hmk:=EBy.make .i64 .i64 (n:Int) (n:Int) (by omega) (by omega) (by omega) (by omega) w
 simp only [Int.toNat_natCast,Nat.mul_one] at hmk
 have HB:=hid (Blk.made w 5 (madeCells (Value.int .u8 0).cells n))
 have hk:Same w (w.alloc (.cells (madeCells (Value.int .u8 0).cells n) 5)):=(Keep.refl _ w).alloc _
 have HK:=hid hk
 have HS:=hid h
 have HC:=hid (show (madeCells (Value.int .u8 0).cells n).size=n by simp [madeCells,Value.cells])
 have HLn:=hid hl
 clear h hk hl
 generalize madeCells (Value.int .u8 0).cells n=cur at *
 go_enter Tryz.func47,Tryz.ntmps47
 go_wp2_with (with_reducible refine copy_all EBy (.tmp 7) (.tmp 8) w.heap.size n n A n c rfl rfl rfl rfl cur HB.out HC.out _ (bcells bs) (HS.out.keep HK.out (fun _ _ f=>f.elim)) (Nat.le_refl _) (bcells_one bs) ?_)
 intro w2 hB2 hK2
 have e1:(bcells bs).take n=bcells bs:=List.take_of_length_le (by rw [bcells_len,HLn.out];omega)
 rw [e1] at hB2
 have HB2:=hid hB2
 have HK2:=hid (HK.out.trans hK2 (fun i hi e=>by omega))
 have hz:=hB2.lt
 clear hB2 hK2 e1
 go_wp2
 go_ret
 have hk3:Same w2 (w2.alloc (.cells #[.slice (some ⟨w.heap.size,0,none⟩) n n,.int .i64 0] 162)):=(Keep.refl _ w2).alloc _
 refine ⟨w2.heap.size,some ⟨w.heap.size,0,none⟩,n,rfl,by omega,?_,HK2.out.then hk3⟩
 rw [HLn.out]
 refine ⟨Blk.made _ _ _,?_,Nat.le_refl _,by omega⟩
 exact Sl.of_blk (HB2.out.keep hk3 (fun f=>f)) (by simp [HLn.out]) (by simp;omega)
def RPost (w:World) (rb:Nat) (Av:Nat→Prop) (s:RS) (v:Value) (e:Ending) (w':World):Prop :=
 ∃ A n c,e=.returned v∧Rd w' rb Av A n c s∧Keep (· = rb) w w'
theorem RPost.of {w w1:World} {rb:Nat} {Av:Nat→Prop} {s:RS} {v:Value} {e:Ending} {w':World} (hk:Keep (· = rb) w w1) (h:RPost w1 rb Av s v e w'):RPost w rb Av s v e w':=by
 obtain ⟨A,n,c,h1,h2,h3⟩:=h
 exact ⟨A,n,c,h1,h2,hk.trans h3 (fun _ _ h=>h)⟩
section
variable (w:World) (rb:Nat) (Av:Nat→Prop)
set_option maxHeartbeats 1000000 in
theorem fail_any (A:Option Addr) (n c:Nat) (s:RS) (h:Rd w rb Av A n c s) (er:Int) :
 Calls Tryz.prog 83 #[.pointer (some ⟨rb,0,none⟩),.int .i64 er] w (RPost w rb Av ⟨[],er⟩ (.tuple #[])):=by
 have c0:=h.top.at_ 0
 have c1:=h.top.at_ 1
 have f0:=h.top.free 0
 have f1:=h.top.free 1
 have H:=hid h
 clear h
 go_enter Tryz.func83,Tryz.ntmps83
 go_wp2
 go_end0
 refine ⟨none,0,0,rfl,⟨?_,Sl.nil _ _ _ _,Nat.le_refl _,H.out.av⟩,((Keep.refl _ w).put _ _).put _ _⟩
 have:=(H.out.top.put 1 (.int .i64 er)).put 0 (.slice none 0 0)
 simpa using this
set_option maxHeartbeats 1000000 in
theorem next_err (A:Option Addr) (n c:Nat) (s:RS) (h:Rd w rb Av A n c s) (he:¬s.err=0) :
 Calls Tryz.prog 82 #[.pointer (some ⟨rb,0,none⟩)] w fun e w'=>e=.returned (.tuple #[.int .u8 0,.bool false])∧w=w':=by
 have c1:=h.top.at_ 1
 obtain ⟨l,er⟩:=s
 simp only at he c1
 have he':(er != 0)=true:=by simpa using he
 clear h he
 go_enter Tryz.func82,Tryz.ntmps82
 go_wp2
 go_ret2
 exact ⟨rfl,rfl⟩
set_option maxHeartbeats 1000000 in
theorem next_end (A:Option Addr) (n c:Nat) (h:Rd w rb Av A n c ⟨[],0⟩) :
 Calls Tryz.prog 82 #[.pointer (some ⟨rb,0,none⟩)] w (RPost w rb Av ⟨[],11⟩ (.tuple #[.int .u8 0,.bool false])):=by
 have hn:=h.len
 simp at hn
 subst hn
 have c0:=h.top.at_ 0
 have c1:=h.top.at_ 1
 have H:=hid h
 clear h
 go_enter Tryz.func82,Tryz.ntmps82
 go_wp2_with fail
 refine (fail_any w rb Av A 0 c _ H.out 11).mono ?_
 rintro e w' ⟨A',n',c',rfl,h1,h2⟩
 go_wp2
 go_ret2
 exact ⟨A',n',c',rfl,h1,h2⟩
set_option maxHeartbeats 1000000 in
theorem next_ok (A:Option Addr) (n c:Nat) (x:UInt8) (l:List UInt8) (h:Rd w rb Av A n c ⟨x :: l,0⟩) :
 Calls Tryz.prog 82 #[.pointer (some ⟨rb,0,none⟩)] w (RPost w rb Av ⟨l,0⟩ (.tuple #[.int .u8 (x.toNat:Int),.bool true])):=by
 have hn:l.length+1=n:=by have:=h.len;simpa using this
 have c0:=h.top.at_ 0
 have c1:=h.top.at_ 1
 have f0:=h.top.free 0
 have hcap:=h.cap
 have hrb:=h.top.lt
 obtain ⟨b,off,rfl,hb,ha,hr⟩:=h.sl.at_ (by omega)
 have hx:w.cell? ⟨b,off,none⟩=some (.int .u8 (x.toNat:Int)):=hr 0 _ rfl
 have hbr:¬b=rb:=fun e=>ha (.inr e)
 have H:=hid h
 have HR:=hid hr
 have HA:=hid ha
 have hfin:∀ (A':Option Addr) (c':Nat),(0<l.length→A'=some ⟨b,off+1,none⟩)→n - 1≤c'→RPost w rb Av ⟨l,0⟩ (.tuple #[.int .u8 (x.toNat:Int),.bool true]) (.returned (.tuple #[.int .u8 (x.toNat:Int),.bool true])) (w.setCell ⟨rb,0,none⟩ (.slice A' (n - 1) c')):=by
  intro A' c' hA hc
  have hk:Keep (· = rb) w (w.setCell ⟨rb,0,none⟩ (.slice A' (n - 1) c')):=(Keep.refl _ w).put _ _
  refine ⟨A',n - 1,c',rfl,⟨?_,?_,hc,H.out.av⟩,hk⟩
  ·have:=H.out.top.put 0 (.slice A' (n - 1) c')
   simpa using this
  ·refine ⟨by simp [bcells];omega,fun h0=>⟨b,off+1,hA (by omega),by simpa using hb,HA.out,?_⟩⟩
   have:=(HR.out.drop 1)
   exact Row.keep (by simpa [bcells] using this) hk hb hbr
 have HF:=hid hfin
 clear h hr ha hfin
 by_cases hc:c=1
 ·subst hc
  obtain rfl:n=1:=by omega
  go_enter Tryz.func82,Tryz.ntmps82
  go_wp2
  go_ret2
  exact HF.out _ _ (by omega) (by omega)
 ·have hc1:¬(c:Int)=1:=by omega
  go_enter Tryz.func82,Tryz.ntmps82
  go_wp2
  go_ret2
  exact HF.out _ _ (fun _=>rfl) (by omega)
end
theorem orT (k:Nat) (P x U:Int) (hk:k≤9) (hP:P=((128 ^ k:Nat):Int)) (hx0:0≤x) (hx:x<256) (h9:k=9→x≤1) (hU:0≤U) (hUk:U.toNat<128 ^ k) :
 bits .or .u64 U (IntKind.u64.wrap (IntKind.u64.wrap (bits .and .u8 x 127) * P))=((U.toNat+x.toNat % 128 * 128 ^ k:Nat):Int)∧U.toNat+x.toNat % 128 * 128 ^ k<18446744073709551616:=by
 subst hP
 have e1:bits .and .u8 x 127=x % 128:=by
  have h:=bits_mask .u8 8 (by decide) wraps_u8 7 (by decide) x hx0 (by omega)
  simpa using h
 have e2:IntKind.u64.wrap (x % 128)=x % 128:=by rw [IntKind.wrap_u64];omega
 obtain ⟨y,rfl⟩:=Int.eq_ofNat_of_zero_le hx0
 obtain ⟨V,rfl⟩:=Int.eq_ofNat_of_zero_le hU
 have hp9:(128:Nat) ^ 9=9223372036854775808:=by decide
 have hp8:(128:Nat) ^ 8=72057594037927936:=by decide
 have hpk:(128:Nat) ^ k=2 ^ (7 * k):=by rw [show (128:Nat)=2 ^ 7 by decide,←Nat.pow_mul]
 simp only [Int.toNat_natCast] at hUk ⊢
 have hle:128 ^ k≤9223372036854775808:=by rw [←hp9];exact Nat.pow_le_pow_right (by decide) hk
 have hb:y % 128 * 128 ^ k+128 ^ k≤18446744073709551616:=by
  by_cases h:k=9
  ·have h1:y % 128≤1:=by have:=h9 h;clear hp9 hp8 hpk hle hUk;omega
   have h3:=Nat.mul_le_mul_right (128 ^ k) h1
   clear hp9 hp8 hpk
   omega
  ·have hle8:128 ^ k≤72057594037927936:=by rw [←hp8];exact Nat.pow_le_pow_right (by decide) (by clear hp9 hp8 hpk hle hUk;omega)
   have h1:y % 128≤127:=by clear hp9 hp8 hpk hle hUk hle8;omega
   have:=Nat.mul_le_mul h1 hle8
   exact Nat.le_trans (Nat.add_le_add this hle8) (by decide)
 clear hp9 hp8
 refine ⟨?_,by omega⟩
 rw [e1,e2,show ((y:Int) % 128 * ((128 ^ k:Nat):Int))=((y % 128 * 128 ^ k:Nat):Int) by simp,
  show IntKind.u64.wrap ((y % 128 * 128 ^ k:Nat):Int)=((y % 128 * 128 ^ k:Nat):Int) by rw [IntKind.wrap_u64];omega]
 have h:=(bits_nat .u64 64 (by decide) wraps_u64 V (y % 128 * 128 ^ k) (by omega) (by omega)).2
 rw [h]
 congr 1
 have:=Nat.shiftLeft_add_eq_or_of_lt (i:=7 * k) (b:=V) (by rw [←hpk];exact hUk) (y % 128)
 rw [Nat.shiftLeft_eq,←hpk] at this
 rw [Nat.or_comm,←this,Nat.add_comm]
theorem orT0 (x U:Int) (hx0:0≤x) (hx:x<256) (hU:0≤U) (hUk:U.toNat<128 ^ 0) :
 bits .or .u64 U (IntKind.u64.wrap (IntKind.u64.wrap (bits .and .u8 x 127)))=((U.toNat+x.toNat % 128 * 128 ^ 0:Nat):Int)∧U.toNat+x.toNat % 128 * 128 ^ 0<18446744073709551616:=by
 have:=orT 0 1 x U (by omega) rfl hx0 hx (by omega) hU hUk
 rwa [Int.mul_one] at this
theorem finT (V:Nat) (h:V<18446744073709551616):bits .xor .i64 (wrap64 ((V:Int) / 2)) (wrap64 (-wrap64 (bits .and .u64 (V:Int) 1)))=unzig V:=by
 have e1:bits .and .u64 (V:Int) 1=(V:Int) % 2:=Lib.u64_and1 _ (by omega) (by omega)
 rw [e1]
 have hq:(V:Int) / 2=((V / 2:Nat):Int):=by simp
 have hw:wrap64 ((V:Int) / 2)=((V / 2:Nat):Int):=by rw [hq];exact IntWalk.wrap64_in _ (by omega)
 rw [hw]
 have hv2:V / 2<9223372036854775808:=by omega
 unfold unzig
 by_cases h2:V % 2=0
 ·rw [if_pos h2,show (V:Int) % 2=0 by omega]
  rw [IntWalk.wrap64_in 0 (by omega),IntWalk.wrap64_in (-0) (by omega),Int.neg_zero]
  have hb:bits .xor .i64 ((V / 2:Nat):Int) 0=IntKind.i64.wrap ((V / 2:Nat):Int):=by
   show IntKind.i64.wrap ((BitVec.ofInt 64 ((V / 2:Nat):Int) ^^^ BitVec.ofInt 64 0).toNat:Int)=_
   congr 2
   rw [BitVec.ofInt_natCast,BitVec.toNat_xor,BitVec.toNat_ofNat,Nat.mod_eq_of_lt (by omega)]
   simp
  rw [hb,IntKind.wrap_i64];omega
 ·rw [if_neg h2,show (V:Int) % 2=1 by omega]
  rw [IntWalk.wrap64_in 1 (by omega),IntWalk.wrap64_in (-1) (by omega)]
  rw [←Lib.i64_not (V / 2) hv2]
  show IntKind.i64.wrap ((BitVec.ofInt 64 ((V / 2:Nat):Int) ^^^ BitVec.ofInt 64 (-1)).toNat:Int)=IntKind.i64.wrap ((BitVec.ofInt 64 (-1) ^^^ BitVec.ofInt 64 ((V / 2:Nat):Int)).toNat:Int)
  rw [BitVec.xor_comm]
theorem vlt {U y k:Nat} (h:U<128 ^ k):U+y % 128 * 128 ^ k<128 ^ (k+1):=by
 have h1:y % 128+1≤128:=by omega
 have h2:=Nat.mul_le_mul_right (128 ^ k) h1
 rw [Nat.add_mul,Nat.one_mul] at h2
 rw [Nat.pow_succ,Nat.mul_comm (128 ^ k) 128]
 omega
section
variable (w:World) (rb:Nat) (Av:Nat→Prop)
def RLoop (w:World) (rb:Nat) (Av:Nat→Prop) (l0:List UInt8) (u i:Value) (wr:World):Prop :=
 ∃ (k:Nat) (U:Int) (l:List UInt8) (A:Option Addr) (n c:Nat),k≤9∧i=.int .i64 k∧u=.int .u64 U∧0≤U∧U.toNat<128 ^ k∧rdU k U.toNat l=rdU 0 0 l0∧Rd wr rb Av A n c ⟨l,0⟩∧Keep (· = rb) w wr
set_option maxRecDepth 100000 in
set_option maxHeartbeats 2000000 in
theorem rInt_ok (A:Option Addr) (n c:Nat) (l0:List UInt8) (h:Rd w rb Av A n c ⟨l0,0⟩) :
 Calls Tryz.prog 48 #[.pointer (some ⟨rb,0,none⟩)] w (RPost w rb Av (rdInt ⟨l0,0⟩).2 (.int .i64 (rdInt ⟨l0,0⟩).1)):=by
 have H:=hid h
 have hgood:∀ (u:Nat) (l:List UInt8) (wr:World) A n c,rdU 0 0 l0=(u,l,0)→Rd wr rb Av A n c ⟨l,0⟩→Keep (· = rb) w wr→RPost w rb Av (rdInt ⟨l0,0⟩).2 (.int .i64 (rdInt ⟨l0,0⟩).1) (.returned (.int .i64 (unzig u))) wr:=by
  intro u l wr A n c hu hR hK
  unfold rdInt
  simp only [not_true_eq_false,if_false,hu,if_true]
  exact ⟨A,n,c,rfl,hR,hK⟩
 have hbad:∀ (e:Int) (u:Nat) (r:List UInt8) (wr wr':World),rdU 0 0 l0=(u,r,e)→¬e=0→Keep (· = rb) w wr→RPost wr rb Av ⟨[],e⟩ (.tuple #[]) (.returned (.tuple #[])) wr'→RPost w rb Av (rdInt ⟨l0,0⟩).2 (.int .i64 (rdInt ⟨l0,0⟩).1) (.returned (.int .i64 0)) wr':=by
  intro e u r wr wr' hu he hK ⟨A,n,c,_,hR,hK2⟩
  unfold rdInt
  simp only [not_true_eq_false,if_false,hu,he]
  exact ⟨A,n,c,rfl,hR,hK.trans hK2 (fun _ _ h=>h)⟩
 have HG:=hid hgood
 have HB:=hid hbad
 clear h hgood hbad
 go_enter Tryz.func48,Tryz.ntmps48
 go_wp2
 go_loopw [3,7] (fun u i wr=>RLoop w rb Av l0 u i wr) (fun _ i _=>10 - (RowKit.intOf i).toNat)
 case atStart=>exact ⟨0,0,l0,A,n,c,by omega,rfl,rfl,by omega,by simp,rfl,H.out,Keep.refl _ _⟩
 case round =>
  obtain ⟨k,U,l,A1,n1,c1,hk,rfl,rfl,hU,hUk,hrd,hR,hK⟩:=hrel
  have HR:=hid hR
  have HK:=hid hK
  have HU:=hid hUk
  have HRD:=hid hrd
  clear hR hK hUk hrd
  cases l with
  | nil =>
    have hq:=hid (HB.out 11 0 [] wr · (by rw [←HRD.out];rfl) (by omega) HK.out)
    go_wp2_with fail
    refine (next_end wr rb Av A1 n1 c1 HR.out).mono ?_
    rintro e w2 ⟨A2,n2,c2,rfl,h1,h2⟩
    go_wp2
    go_ret
    exact hq.out _ ⟨A2,n2,c2,rfl,h1,h2⟩
  | cons x l =>
    have hx:=x.toNat_lt
    by_cases hbad:(k=9∧¬x.toNat=1)∨(0<k∧x.toNat=0)
    ·have hq:=hid (HB.out 2 0 [] · · (by rw [←HRD.out,rdU,if_pos hbad]) (by omega))
     go_wp2_with fail
     refine (next_ok wr rb Av A1 n1 c1 x l HR.out).mono ?_
     rintro e w2 ⟨A2,n2,c2,rfl,h1,h2⟩
     have H1:=hid h1
     have H2:=hid h2
     clear h1 h2
     rcases hbad with ⟨rfl,hb⟩ | ⟨hb0,hb⟩
     ·have hb1:((x.toNat:Int) != 1)=true:=by simp;omega
      go_wp2_with fail
      refine (fail_any w2 rb Av A2 n2 c2 _ H1.out 2).mono ?_
      rintro e w3 ⟨A3,n3,c3,rfl,h1,h2⟩
      go_wp2
      go_ret
      exact hq.out _ _ (HK.out.trans H2.out (fun _ _ h=>h)) ⟨A3,n3,c3,rfl,h1,h2⟩
     ·rw [hb]
      have hb1:((((0:Nat)):Int) != 1)=true:=by decide
      by_cases hk9:k=9
      ·subst hk9
       go_wp2_with fail
       refine (fail_any w2 rb Av A2 n2 c2 _ H1.out 2).mono ?_
       rintro e w3 ⟨A3,n3,c3,rfl,h1,h2⟩
       go_wp2
       go_ret
       exact hq.out _ _ (HK.out.trans H2.out (fun _ _ h=>h)) ⟨A3,n3,c3,rfl,h1,h2⟩
      ·have hk9':((k:Int) == 9)=false:=by simp;omega
       go_wp2_with fail
       refine (fail_any w2 rb Av A2 n2 c2 _ H1.out 2).mono ?_
       rintro e w3 ⟨A3,n3,c3,rfl,h1,h2⟩
       go_wp2
       go_ret
       exact hq.out _ _ (HK.out.trans H2.out (fun _ _ h=>h)) ⟨A3,n3,c3,rfl,h1,h2⟩
    ·go_wp2_with fail
     refine (next_ok wr rb Av A1 n1 c1 x l HR.out).mono ?_
     rintro e w2 ⟨A2,n2,c2,rfl,h1,h2⟩
     have H1:=hid h1
     have H2:=hid h2
     clear h1 h2
     have hrdd:=HRD.out
     rw [rdU,if_neg hbad] at hrdd
     have HRDD:=hid hrdd
     have HB9:=hid hbad
     clear hrdd hbad
     have hks:k=0∨k=1∨k=2∨k=3∨k=4∨k=5∨k=6∨k=7∨k=8∨k=9:=by omega
     rcases hks with rfl | rfl | rfl | rfl | rfl | rfl | rfl | rfl | rfl | rfl
     ·have hor:=hid (orT0 (x.toNat:Int) U (by omega) (by omega) hU HU.out)
      by_cases hs:x.toNat<128
      ·have hr2:=HRDD.out
       rw [if_pos hs] at hr2
       have HR2:=hid hr2.symm
       clear hr2
       go_wp2
       go_ret
       have hv:=hor.out
       rw [Int.toNat_natCast,Nat.mod_eq_of_lt hs] at hv
       rw [hv.1,finT _ hv.2]
       exact HG.out _ _ _ _ _ _ HR2.out H1.out (HK.out.trans H2.out (fun _ _ h=>h))
      ·have hr2:=HRDD.out
       rw [if_neg hs] at hr2
       have HR2:=hid hr2
       clear hr2
       go_wp2
       go_roundw
       case rel =>
        have hv:=hor.out
        rw [Int.toNat_natCast] at hv
        rw [hv.1]
        exact ⟨1,_,l,A2,n2,c2,by omega,rfl,rfl,by omega,by rw [Int.toNat_natCast];exact vlt (k:=0) HU.out,by rw [Int.toNat_natCast];exact HR2.out,H1.out,HK.out.trans H2.out (fun _ _ h=>h)⟩
       case measure=>simp [RowKit.intOf]
     ·have hor:=hid (orT 1 128 (x.toNat:Int) U (by omega) (by decide) (by omega) (by omega) (by have:=HB9.out;omega) hU HU.out)
      have hx0:((x.toNat:Int) == 0)=false:=by have:=HB9.out;simp;omega
      by_cases hs:x.toNat<128
      ·have hr2:=HRDD.out
       rw [if_pos hs] at hr2
       have HR2:=hid hr2.symm
       clear hr2
       go_wp2
       go_ret
       have hv:=hor.out
       rw [Int.toNat_natCast,Nat.mod_eq_of_lt hs] at hv
       rw [hv.1,finT _ hv.2]
       exact HG.out _ _ _ _ _ _ HR2.out H1.out (HK.out.trans H2.out (fun _ _ h=>h))
      ·have hr2:=HRDD.out
       rw [if_neg hs] at hr2
       have HR2:=hid hr2
       clear hr2
       go_wp2
       go_roundw
       case rel =>
        have hv:=hor.out
        rw [Int.toNat_natCast] at hv
        rw [hv.1]
        exact ⟨2,_,l,A2,n2,c2,by omega,rfl,rfl,by omega,by rw [Int.toNat_natCast];exact vlt (k:=1) HU.out,by rw [Int.toNat_natCast];exact HR2.out,H1.out,HK.out.trans H2.out (fun _ _ h=>h)⟩
       case measure=>simp [RowKit.intOf]
     ·have hor:=hid (orT 2 16384 (x.toNat:Int) U (by omega) (by decide) (by omega) (by omega) (by have:=HB9.out;omega) hU HU.out)
      have hx0:((x.toNat:Int) == 0)=false:=by have:=HB9.out;simp;omega
      by_cases hs:x.toNat<128
      ·have hr2:=HRDD.out
       rw [if_pos hs] at hr2
       have HR2:=hid hr2.symm
       clear hr2
       go_wp2
       go_ret
       have hv:=hor.out
       rw [Int.toNat_natCast,Nat.mod_eq_of_lt hs] at hv
       rw [hv.1,finT _ hv.2]
       exact HG.out _ _ _ _ _ _ HR2.out H1.out (HK.out.trans H2.out (fun _ _ h=>h))
      ·have hr2:=HRDD.out
       rw [if_neg hs] at hr2
       have HR2:=hid hr2
       clear hr2
       go_wp2
       go_roundw
       case rel =>
        have hv:=hor.out
        rw [Int.toNat_natCast] at hv
        rw [hv.1]
        exact ⟨3,_,l,A2,n2,c2,by omega,rfl,rfl,by omega,by rw [Int.toNat_natCast];exact vlt (k:=2) HU.out,by rw [Int.toNat_natCast];exact HR2.out,H1.out,HK.out.trans H2.out (fun _ _ h=>h)⟩
       case measure=>simp [RowKit.intOf]
     ·have hor:=hid (orT 3 2097152 (x.toNat:Int) U (by omega) (by decide) (by omega) (by omega) (by have:=HB9.out;omega) hU HU.out)
      have hx0:((x.toNat:Int) == 0)=false:=by have:=HB9.out;simp;omega
      by_cases hs:x.toNat<128
      ·have hr2:=HRDD.out
       rw [if_pos hs] at hr2
       have HR2:=hid hr2.symm
       clear hr2
       go_wp2
       go_ret
       have hv:=hor.out
       rw [Int.toNat_natCast,Nat.mod_eq_of_lt hs] at hv
       rw [hv.1,finT _ hv.2]
       exact HG.out _ _ _ _ _ _ HR2.out H1.out (HK.out.trans H2.out (fun _ _ h=>h))
      ·have hr2:=HRDD.out
       rw [if_neg hs] at hr2
       have HR2:=hid hr2
       clear hr2
       go_wp2
       go_roundw
       case rel =>
        have hv:=hor.out
        rw [Int.toNat_natCast] at hv
        rw [hv.1]
        exact ⟨4,_,l,A2,n2,c2,by omega,rfl,rfl,by omega,by rw [Int.toNat_natCast];exact vlt (k:=3) HU.out,by rw [Int.toNat_natCast];exact HR2.out,H1.out,HK.out.trans H2.out (fun _ _ h=>h)⟩
       case measure=>simp [RowKit.intOf]
     ·have hor:=hid (orT 4 268435456 (x.toNat:Int) U (by omega) (by decide) (by omega) (by omega) (by have:=HB9.out;omega) hU HU.out)
      have hx0:((x.toNat:Int) == 0)=false:=by have:=HB9.out;simp;omega
      by_cases hs:x.toNat<128
      ·have hr2:=HRDD.out
       rw [if_pos hs] at hr2
       have HR2:=hid hr2.symm
       clear hr2
       go_wp2
       go_ret
       have hv:=hor.out
       rw [Int.toNat_natCast,Nat.mod_eq_of_lt hs] at hv
       rw [hv.1,finT _ hv.2]
       exact HG.out _ _ _ _ _ _ HR2.out H1.out (HK.out.trans H2.out (fun _ _ h=>h))
      ·have hr2:=HRDD.out
       rw [if_neg hs] at hr2
       have HR2:=hid hr2
       clear hr2
       go_wp2
       go_roundw
       case rel =>
        have hv:=hor.out
        rw [Int.toNat_natCast] at hv
        rw [hv.1]
        exact ⟨5,_,l,A2,n2,c2,by omega,rfl,rfl,by omega,by rw [Int.toNat_natCast];exact vlt (k:=4) HU.out,by rw [Int.toNat_natCast];exact HR2.out,H1.out,HK.out.trans H2.out (fun _ _ h=>h)⟩
       case measure=>simp [RowKit.intOf]
     ·have hor:=hid (orT 5 34359738368 (x.toNat:Int) U (by omega) (by decide) (by omega) (by omega) (by have:=HB9.out;omega) hU HU.out)
      have hx0:((x.toNat:Int) == 0)=false:=by have:=HB9.out;simp;omega
      by_cases hs:x.toNat<128
      ·have hr2:=HRDD.out
       rw [if_pos hs] at hr2
       have HR2:=hid hr2.symm
       clear hr2
       go_wp2
       go_ret
       have hv:=hor.out
       rw [Int.toNat_natCast,Nat.mod_eq_of_lt hs] at hv
       rw [hv.1,finT _ hv.2]
       exact HG.out _ _ _ _ _ _ HR2.out H1.out (HK.out.trans H2.out (fun _ _ h=>h))
      ·have hr2:=HRDD.out
       rw [if_neg hs] at hr2
       have HR2:=hid hr2
       clear hr2
       go_wp2
       go_roundw
       case rel =>
        have hv:=hor.out
        rw [Int.toNat_natCast] at hv
        rw [hv.1]
        exact ⟨6,_,l,A2,n2,c2,by omega,rfl,rfl,by omega,by rw [Int.toNat_natCast];exact vlt (k:=5) HU.out,by rw [Int.toNat_natCast];exact HR2.out,H1.out,HK.out.trans H2.out (fun _ _ h=>h)⟩
       case measure=>simp [RowKit.intOf]
     ·have hor:=hid (orT 6 4398046511104 (x.toNat:Int) U (by omega) (by decide) (by omega) (by omega) (by have:=HB9.out;omega) hU HU.out)
      have hx0:((x.toNat:Int) == 0)=false:=by have:=HB9.out;simp;omega
      by_cases hs:x.toNat<128
      ·have hr2:=HRDD.out
       rw [if_pos hs] at hr2
       have HR2:=hid hr2.symm
       clear hr2
       go_wp2
       go_ret
       have hv:=hor.out
       rw [Int.toNat_natCast,Nat.mod_eq_of_lt hs] at hv
       rw [hv.1,finT _ hv.2]
       exact HG.out _ _ _ _ _ _ HR2.out H1.out (HK.out.trans H2.out (fun _ _ h=>h))
      ·have hr2:=HRDD.out
       rw [if_neg hs] at hr2
       have HR2:=hid hr2
       clear hr2
       go_wp2
       go_roundw
       case rel =>
        have hv:=hor.out
        rw [Int.toNat_natCast] at hv
        rw [hv.1]
        exact ⟨7,_,l,A2,n2,c2,by omega,rfl,rfl,by omega,by rw [Int.toNat_natCast];exact vlt (k:=6) HU.out,by rw [Int.toNat_natCast];exact HR2.out,H1.out,HK.out.trans H2.out (fun _ _ h=>h)⟩
       case measure=>simp [RowKit.intOf]
     ·have hor:=hid (orT 7 562949953421312 (x.toNat:Int) U (by omega) (by decide) (by omega) (by omega) (by have:=HB9.out;omega) hU HU.out)
      have hx0:((x.toNat:Int) == 0)=false:=by have:=HB9.out;simp;omega
      by_cases hs:x.toNat<128
      ·have hr2:=HRDD.out
       rw [if_pos hs] at hr2
       have HR2:=hid hr2.symm
       clear hr2
       go_wp2
       go_ret
       have hv:=hor.out
       rw [Int.toNat_natCast,Nat.mod_eq_of_lt hs] at hv
       rw [hv.1,finT _ hv.2]
       exact HG.out _ _ _ _ _ _ HR2.out H1.out (HK.out.trans H2.out (fun _ _ h=>h))
      ·have hr2:=HRDD.out
       rw [if_neg hs] at hr2
       have HR2:=hid hr2
       clear hr2
       go_wp2
       go_roundw
       case rel =>
        have hv:=hor.out
        rw [Int.toNat_natCast] at hv
        rw [hv.1]
        exact ⟨8,_,l,A2,n2,c2,by omega,rfl,rfl,by omega,by rw [Int.toNat_natCast];exact vlt (k:=7) HU.out,by rw [Int.toNat_natCast];exact HR2.out,H1.out,HK.out.trans H2.out (fun _ _ h=>h)⟩
       case measure=>simp [RowKit.intOf]
     ·have hor:=hid (orT 8 72057594037927936 (x.toNat:Int) U (by omega) (by decide) (by omega) (by omega) (by have:=HB9.out;omega) hU HU.out)
      have hx0:((x.toNat:Int) == 0)=false:=by have:=HB9.out;simp;omega
      by_cases hs:x.toNat<128
      ·have hr2:=HRDD.out
       rw [if_pos hs] at hr2
       have HR2:=hid hr2.symm
       clear hr2
       go_wp2
       go_ret
       have hv:=hor.out
       rw [Int.toNat_natCast,Nat.mod_eq_of_lt hs] at hv
       rw [hv.1,finT _ hv.2]
       exact HG.out _ _ _ _ _ _ HR2.out H1.out (HK.out.trans H2.out (fun _ _ h=>h))
      ·have hr2:=HRDD.out
       rw [if_neg hs] at hr2
       have HR2:=hid hr2
       clear hr2
       go_wp2
       go_roundw
       case rel =>
        have hv:=hor.out
        rw [Int.toNat_natCast] at hv
        rw [hv.1]
        exact ⟨9,_,l,A2,n2,c2,by omega,rfl,rfl,by omega,by rw [Int.toNat_natCast];exact vlt (k:=8) HU.out,by rw [Int.toNat_natCast];exact HR2.out,H1.out,HK.out.trans H2.out (fun _ _ h=>h)⟩
       case measure=>simp [RowKit.intOf]
     ·have hx1:x.toNat=1:=by have:=HB9.out;omega
      have hor:=hid (orT 9 9223372036854775808 1 U (by omega) (by decide) (by omega) (by omega) (by omega) hU HU.out)
      have hr2:=HRDD.out
      rw [hx1,if_pos (by decide)] at hr2
      have HR2:=hid hr2.symm
      clear hr2
      rw [hx1]
      go_wp2
      go_ret
      have hv:=hor.out
      rw [show (1:Int).toNat % 128=1 by decide] at hv
      rw [hv.1,finT _ hv.2]
      exact HG.out _ _ _ _ _ _ HR2.out H1.out (HK.out.trans H2.out (fun _ _ h=>h))
end
theorem rdU_len:∀ (l:List UInt8) (i acc:Nat),(rdU i acc l).2.1.length≤l.length
 | [],i,acc=>by simp [rdU]
 | b :: l,i,acc=>by
   unfold rdU
   split
   ·simp
   ·split
    ·simp
    ·have:=rdU_len l (i+1) (acc+b.toNat % 128 * 128 ^ i);simp;omega
theorem rdInt_len (s:RS):(rdInt s).2.rest.length≤s.rest.length:=by
 unfold rdInt
 split
 ·exact Nat.le_refl _
 ·split
  ·exact rdU_len _ _ _
  ·simp
theorem rdMany_len (s:RS):(rdMany s).2.rest.length≤s.rest.length:=by
 have:=rdInt_len s
 unfold rdMany
 split
 ·exact this
 ·split
  ·simp
  ·split
   ·simp
   ·exact this
theorem rdMany_fit {s:RS} (_h:(rdMany s).2.err=0):0≤(rdMany s).1∧(rdMany s).1≤(rdMany s).2.rest.length:=by
 unfold rdMany
 split
 ·simp
 ·split
  ·simp
  ·split
   ·simp
   ·omega
def endE (s:RS):Int:=if s.err=0 then (if s.rest=[] then 0 else 2) else s.err
section
variable (w:World) (rb:Nat) (Av:Nat→Prop) (A:Option Addr) (n c:Nat)
set_option maxHeartbeats 1000000 in
theorem rInt_any (s:RS) (h:Rd w rb Av A n c s) :
 Calls Tryz.prog 48 #[.pointer (some ⟨rb,0,none⟩)] w (RPost w rb Av (rdInt s).2 (.int .i64 (rdInt s).1)):=by
 by_cases he:s.err=0
 ·rw [rs_of he] at h ⊢
  exact rInt_ok w rb Av A n c s.rest h
 ·rw [rdInt_err he]
  have H:=hid h
  have HE:=hid he
  clear h he
  go_enter Tryz.func48,Tryz.ntmps48
  go_wp2
  go_loopw [3,7] (fun u i wr=>i=.int .i64 0∧wr=w) (fun _ i _=>10 - (RowKit.intOf i).toNat)
  case atStart=>exact ⟨rfl,rfl⟩
  case round =>
   obtain ⟨rfl,rfl⟩:=hrel
   go_wp2_with fail
   refine (next_err wr rb Av A n c s H.out HE.out).mono ?_
   rintro e w2 ⟨rfl,rfl⟩
   go_wp2
   go_ret
   exact ⟨A,n,c,rfl,H.out,Keep.refl _ _⟩
set_option maxHeartbeats 1000000 in
theorem length_any (s:RS) (h:Rd w rb Av A n c s) (hsz:s.rest.length≤1000000000) :
 Calls Tryz.prog 84 #[.pointer (some ⟨rb,0,none⟩)] w (RPost w rb Av (rdMany s).2 (.int .i64 (rdMany s).1)):=by
 have HI:=hid (rInt_any w rb Av A n c s h)
 have hl:=rdInt_len s
 unfold rdMany
 generalize rdInt s=q at *
 obtain ⟨v,l1,e1⟩:=q
 simp only at HI hl ⊢
 clear h
 by_cases he:e1=0
 ·subst he
  simp only [not_true_eq_false,if_false]
  by_cases hv:v<0
  ·rw [if_pos hv]
   go_enter Tryz.func84,Tryz.ntmps84
   go_wp2_with fail
   refine HI.out.mono ?_
   rintro e w2 ⟨A2,n2,c2,rfl,g1,g2⟩
   have c0:=g1.top.at_ 0
   have c1:=g1.top.at_ 1
   have G1:=hid g1
   have G2:=hid g2
   clear g1 g2
   go_wp2_with fail
   refine (fail_any w2 rb Av A2 n2 c2 _ G1.out 2).mono ?_
   rintro e w3 ⟨A3,n3,c3,rfl,g3,g4⟩
   go_wp2
   go_ret
   exact ⟨A3,n3,c3,rfl,g3,G2.out.trans g4 (fun _ _ h=>h)⟩
  ·rw [if_neg hv]
   by_cases hm:(l1.length:Int)<v
   ·rw [if_pos hm]
    go_enter Tryz.func84,Tryz.ntmps84
    go_wp2_with fail
    refine HI.out.mono ?_
    rintro e w2 ⟨A2,n2,c2,rfl,g1,g2⟩
    have c0:=g1.top.at_ 0
    have c1:=g1.top.at_ 1
    have hl2:(n2:Int)<v:=by have:=g1.len;simp only at this;omega
    have hl3:n2≤1000000000:=by have:=g1.len;simp only at this;omega
    have G1:=hid g1
    have G2:=hid g2
    clear g1 g2 hm
    go_wp2_with fail
    refine (fail_any w2 rb Av A2 n2 c2 _ G1.out 11).mono ?_
    rintro e w3 ⟨A3,n3,c3,rfl,g3,g4⟩
    go_wp2
    go_ret
    exact ⟨A3,n3,c3,rfl,g3,G2.out.trans g4 (fun _ _ h=>h)⟩
   ·rw [if_neg hm]
    go_enter Tryz.func84,Tryz.ntmps84
    go_wp2_with fail
    refine HI.out.mono ?_
    rintro e w2 ⟨A2,n2,c2,rfl,g1,g2⟩
    have c0:=g1.top.at_ 0
    have c1:=g1.top.at_ 1
    have hl2:v≤(n2:Int):=by have:=g1.len;simp only at this;omega
    have hl3:n2≤1000000000:=by have:=g1.len;simp only at this;omega
    have G1:=hid g1
    have G2:=hid g2
    clear g1 g2 hm
    go_wp2
    go_ret
    exact ⟨A2,n2,c2,rfl,G1.out,G2.out⟩
 ·simp only [he,not_false_eq_true,if_true]
  have he':(e1 != 0)=true:=by simpa using he
  clear he
  go_enter Tryz.func84,Tryz.ntmps84
  go_wp2_with fail
  refine HI.out.mono ?_
  rintro e w2 ⟨A2,n2,c2,rfl,g1,g2⟩
  have c1:=g1.top.at_ 1
  have G1:=hid g1
  have G2:=hid g2
  clear g1 g2
  go_wp2
  go_ret
  exact ⟨A2,n2,c2,rfl,G1.out,G2.out⟩
set_option maxHeartbeats 1000000 in
theorem finish_any (s:RS) (h:Rd w rb Av A n c s) (hsz:s.rest.length≤1000000000) :
 Calls Tryz.prog 50 #[.pointer (some ⟨rb,0,none⟩)] w fun e w'=>e=.returned (.int .i64 (endE s))∧w=w':=by
 have c0:=h.top.at_ 0
 have c1:=h.top.at_ 1
 have hl:=h.len
 obtain ⟨l,er⟩:=s
 simp only at hl hsz c0 c1
 unfold endE
 simp only
 clear h
 by_cases he:er=0
 ·subst he
  rw [if_pos rfl]
  by_cases hn:n=0
  ·subst hn
   rw [if_pos (List.eq_nil_of_length_eq_zero hl)]
   clear hl
   go_enter Tryz.func50,Tryz.ntmps50
   go_wp2
   go_ret
   exact ⟨rfl,rfl⟩
  ·rw [if_neg (by rintro rfl;simp at hl;omega)]
   have h0:0<n:=by omega
   have h1:n≤1000000000:=by omega
   clear hl hn
   go_enter Tryz.func50,Tryz.ntmps50
   go_wp2
   go_ret
   exact ⟨rfl,rfl⟩
 ·rw [if_neg he]
  have he':(er != 0)=true:=by simpa using he
  clear he hl
  go_enter Tryz.func50,Tryz.ntmps50
  go_wp2
  go_ret
  exact ⟨rfl,rfl⟩
end
def SPost (w:World) (rb:Nat) (Av:Nat→Prop) (t:TypeId) (s:RS) (cs:List Value) (e:Ending) (w':World):Prop :=
 ∃ A n c B,e=.returned (.slice B cs.length cs.length)∧Rd w' rb Av A n c s∧Keep (· = rb) w w'∧(0<cs.length→∃ g,B=some ⟨g,0,none⟩∧w.heap.size≤g∧Blk w' g t cs.toArray)
theorem EIn:Elem Tryz.prog 22 3 1 8 (.int .i64 0):=⟨Tryz.underlying22,by kernel_rfl,rfl,by decide⟩
section
variable (w:World) (rb:Nat) (Av:Nat→Prop) (A:Option Addr) (n c:Nat)
set_option maxHeartbeats 2000000 in
theorem rBytes_any (s:RS) (h:Rd w rb Av A n c s) (hsz:s.rest.length≤1000000000) :
 Calls Tryz.prog 49 #[.pointer (some ⟨rb,0,none⟩)] w (SPost w rb Av 5 (rdBytes s).2 (bcells (rdBytes s).1)):=by
 have HI:=hid (length_any w rb Av A n c s h hsz)
 have hl:=rdMany_len s
 have hbad:=@rdMany_bad s
 have hfit:=@rdMany_fit s
 have hrbw:=h.top.lt
 unfold rdBytes
 generalize rdMany s=q at *
 obtain ⟨v,l1,e1⟩:=q
 simp only at HI hl hbad hfit ⊢
 clear h
 by_cases hv:v=0
 ·subst hv
  have hres:Hid ((if ¬e1=0 then (([]:List UInt8),(⟨l1,e1⟩:RS)) else (List.take (Int.toNat 0) l1,⟨List.drop (Int.toNat 0) l1,0⟩))=([],⟨l1,e1⟩)):=by
   by_cases he:e1=0
   ·subst he;exact hid (by simp)
   ·exact hid (by rw [if_pos he])
  rw [hres.out]
  clear hbad hfit hres
  go_enter Tryz.func49,Tryz.ntmps49
  go_wp2_with fail
  refine HI.out.mono ?_
  rintro e w2 ⟨A2,n2,c2,rfl,g1,g2⟩
  go_wp2
  go_ret
  exact ⟨A2,n2,c2,none,rfl,g1,g2,by simp [bcells]⟩
 ·have he:e1=0:=by
   by_cases he:e1=0
   ·exact he
   ·exact absurd (hbad he) hv
  subst he
  obtain ⟨hv0,hv1⟩:=hfit rfl
  obtain ⟨k,rfl⟩:=Int.eq_ofNat_of_zero_le hv0
  have hk0:0<k:=by omega
  have hkl:k≤l1.length:=by omega
  rw [if_neg (by simp)]
  simp only [Int.toNat_natCast]
  have hv':((k:Int) == 0)=false:=by simp;omega
  clear hbad hfit hv hv0 hv1
  go_enter Tryz.func49,Tryz.ntmps49
  go_wp2_with fail
  refine HI.out.mono ?_
  rintro e w2 ⟨A2,n2,c2,rfl,g1,g2⟩
  have hln:=g1.len
  simp only at hln
  have hcap:=g1.cap
  have hmk:=EBy.make .i64 .i64 (k:Int) (k:Int) (by omega) (by omega) (by omega) (by omega) w2
  simp only [Int.toNat_natCast,Nat.mul_one] at hmk
  have HC:=hid (show (madeCells (Value.int .u8 0).cells k).size=k by simp [madeCells,Value.cells])
  have HB:=hid (Blk.made w2 5 (madeCells (Value.int .u8 0).cells k))
  have hka:Same w2 (w2.alloc (.cells (madeCells (Value.int .u8 0).cells k) 5)):=(Keep.refl _ _).alloc _
  have hR3:=g1.same hka
  have c0:(w2.alloc (.cells (madeCells (Value.int .u8 0).cells k) 5)).cell? ⟨rb,0,none⟩=some (.slice A2 n2 c2):=hR3.top.at_ 0
  have HR3:=hid hR3
  have HK3:=hid (g2.then hka)
  have hrb2:=g1.top.lt
  have hsz2:=g2.size
  have hkn2:k≤n2:=by omega
  have hn2s:n2≤1000000000:=by omega
  obtain ⟨b2,off2,rfl,hb2,hav2,hr2⟩:=g1.sl.at_ (show 0<n2 by omega)
  have HAV2:=hid hav2
  have HROW:=hid hr2
  have HL1:=hid hln
  have HG1:=hid g1
  have HG2:=hid g2
  have HKA:=hid hka
  clear g1 g2 hka hR3 hr2 hav2 hln
  generalize madeCells (Value.int .u8 0).cells k=cur at *
  go_wp2_with (with_reducible refine copy_all EBy (.tmp 11) (.tmp 15) w2.heap.size k k (some ⟨b2,off2,none⟩) n2 c2 rfl rfl rfl rfl cur HB.out HC.out _ (bcells l1) HR3.out.sl hkn2 (bcells_one _) ?_)
  intro w4 hB4 hK4
  have et:(bcells l1).take k=bcells (l1.take k):=by simp [bcells,List.map_take]
  rw [et] at hB4
  have hk24:Same w2 w4:=HKA.out.trans hK4 (fun i hi e=>by omega)
  have hR4:=HG1.out.same hk24
  have c4:w4.cell? ⟨rb,0,none⟩=some (.slice (some ⟨b2,off2,none⟩) n2 c2):=hR4.top.at_ 0
  have f4:w4.frozen? ⟨rb,0,none⟩=false:=hR4.top.free 0
  have hrb4:=hR4.top.lt
  have HR4:=hid hR4
  have HB4:=hid hB4
  have HK4:=hid (HG2.out.then hk24)
  have HRO4:=hid (HROW.out.keep hk24 hb2 (fun f=>f))
  have hfin:∀ (A':Option Addr) (c':Nat),(k<n2→A'=some ⟨b2,off2+k,none⟩)→n2 - k≤c'→SPost w rb Av 5 ⟨l1.drop k,0⟩ (bcells (l1.take k)) (.returned (.slice (some ⟨w2.heap.size,0,none⟩) k k)) (w4.setCell ⟨rb,0,none⟩ (.slice A' (n2 - k) c')):=by
   intro A' c' hA hc
   have hk:Keep (· = rb) w4 (w4.setCell ⟨rb,0,none⟩ (.slice A' (n2 - k) c')):=(Keep.refl _ w4).put _ _
   have hkl2:(bcells (l1.take k)).length=k:=by rw [bcells_len,List.length_take];omega
   refine ⟨A',n2 - k,c',some ⟨w2.heap.size,0,none⟩,by rw [hkl2],⟨?_,?_,hc,HR4.out.av⟩,HK4.out.trans hk (fun _ _ h=>h),fun _=>⟨w2.heap.size,rfl,hsz2,?_⟩⟩
   ·have:=HR4.out.top.put 0 (.slice A' (n2 - k) c')
    simpa using this
   ·refine ⟨by rw [bcells_len,List.length_drop,HL1.out];omega,fun h0=>⟨b2,off2+k,hA (by omega),?_,HAV2.out,?_⟩⟩
    ·have:=hk24.size;simp;omega
    ·have hd:=HRO4.out.drop k
     have:(bcells l1).drop k=bcells (l1.drop k):=by simp [bcells,List.map_drop]
     rw [this] at hd
     exact hd.keep hk (Nat.lt_of_lt_of_le hb2 hk24.size) (fun e=>HAV2.out (.inr e))
   ·exact HB4.out.far (p:=⟨rb,0,none⟩) (by simp;omega) _
  have HF:=hid hfin
  clear hB4 hK4 hR4 hfin hk24 et c0
  by_cases hc:c2=k
  ·subst hc
   obtain rfl:n2=c2:=by omega
   go_wp2
   go_ret
   have:=HF.out (some ⟨b2,off2,none⟩) 0 (by omega) (by omega)
   simpa using this
  ·have hc':¬(c2:Int)=k:=by omega
   go_wp2
   go_ret
   exact HF.out _ _ (fun _=>rfl) (by omega)
end
def strOf (l:List UInt8):ByteArray:=⟨l.toArray⟩
theorem strOf_list (l:List UInt8):(strOf l).data.toList=l:=by simp [strOf]
theorem strOf_data (s:ByteArray):strOf s.data.toList=s:=by cases s;simp [strOf]
theorem conv_str (w:World) (Av:Nat→Prop) (B:Option Addr) (n c:Nat) (l:List UInt8) (h:Sl w Av 1 B n (bcells l)):(convert 44 9 (.slice B n c)).run Tryz.prog w=.ok (.string (strOf l)) w:=by
 have hl:l.length=n:=by have:=h.len;simpa [bcells] using this
 rw [run_convert_bytes_string w _ _ _ B n c Tryz.underlying44 Tryz.underlying5 u_str]
 rcases B with _ | a
 ·have h0:n=0:=by
   rcases Nat.eq_zero_or_pos n with h0 | h0
   ·exact h0
   ·obtain ⟨b,off,e,_⟩:=h.at_ h0;cases e
  subst h0
  obtain rfl:l=[]:=List.eq_nil_of_length_eq_zero hl
  simp [Conv.bytesToString,strOf]
  rfl
 ·have hld:(loadCells a n).run Tryz.prog w=.ok ((l.map fun b=>(b.toNat:Int)).map (Value.int .u8)).toArray w:=by
   have hh:=run_loadCells_list (P:=Tryz.prog) w a ((l.map fun b=>(b.toNat:Int)).map (Value.int .u8)) (fun j u hu=>by
    have hj:=(List.getElem?_eq_some_iff.1 hu).1
    obtain ⟨b,off,e,_,_,hr⟩:=h.at_ (by simp at hj;omega)
    injection e with e
    rw [e,add_blk]
    exact hr j u (by simpa [bcells,bv,Function.comp_def] using hu))
   simpa [hl] using hh
  rw [run_bytesToString w a n c _ hld,foldl_push_bytes]
  congr 2
  have hm:List.map ((fun n:Int=>UInt8.ofNat n.toNat) ∘ fun b:UInt8=>(b.toNat:Int)) l=l:=by simp [Function.comp_def]
  simp [strOf,ByteArray.empty,ByteArray.emptyWithCapacity,hm]
  rfl
section
variable (w:World) (rb:Nat) (Av:Nat→Prop) (A:Option Addr) (n c:Nat)
set_option maxHeartbeats 2000000 in
theorem rString_any (s:RS) (h:Rd w rb Av A n c s) (hsz:s.rest.length≤1000000000) :
 Calls Tryz.prog 70 #[.pointer (some ⟨rb,0,none⟩)] w (RPost w rb Av (rdBytes s).2 (.string (strOf (rdBytes s).1))):=by
 have HI:=hid (rBytes_any w rb Av A n c s h hsz)
 generalize rdBytes s=q at *
 obtain ⟨l,s1⟩:=q
 clear h
 simp only at HI ⊢
 go_enter Tryz.func70,Tryz.ntmps70
 go_wp2_with fail
 refine HI.out.mono ?_
 rintro e w2 ⟨A2,n2,c2,B,rfl,g1,g2,g3⟩
 have hcv:=conv_str w2 (fun _=>False) B (bcells l).length (bcells l).length l ⟨by simp,fun h0=>by
  obtain ⟨g,hB,_,hb⟩:=g3 h0
  exact ⟨g,0,hB,hb.lt,fun f=>f,Row.of_blk hb⟩⟩
 have HG:=hid (And.intro g1 g2)
 clear g1 g2 g3 HI
 generalize (bcells l).length=m at *
 go_wp2
 go_ret
 exact ⟨A2,n2,c2,rfl,HG.out.1,HG.out.2⟩
end
end Go.Proofs.YtbjddfiledoaoaaGreat

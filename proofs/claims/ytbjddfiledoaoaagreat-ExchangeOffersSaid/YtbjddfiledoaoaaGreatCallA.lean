import Derived.Test.YtbjddfiledoaoaaGreatWireE
namespace Go.Proofs.YtbjddfiledoaoaaGreat
open Go.RowKit
structure CL where
 call:Int
 st:Int
 since:Int
 cen:Int
 ep:Int
 name:ByteArray
 ver:Int
 ans:List Int
def vN (n lo:Int):Bool:=decide (lo≤n) && decide (n≤1099511627776)
def vC (c:Int):Bool:=decide (0≤c) && decide (c<9)
def vP (z:Nat) (v:Int):Bool:=decide (1≤z) && decide (z≤40) && decide (1≤v) && decide (v≤1048576)
def assignE (s:CL) (c e t:Int):Int:=if vC c=true∧vN e 1=true∧vN t 0=true then (if e≤s.ep then 9 else if s.st=5 then 8 else 0) else 1
def assignS (s:CL) (c e t:Int):CL:=if assignE s c e t=0 then { s with st:=if s.st=2 then 1 else if s.st=4 then 3 else s.st,since:=if s.st=2∨s.st=4 then t else s.since,cen:=c,ep:=e } else s
def acceptE (s:CL) (e:Int) (nm:ByteArray) (v:Int):Int:=if vN e 1=true∧vP nm.size v=true then (if ¬e=s.ep then 9 else if s.st=5 then 8 else if (s.name.toList == [])=false∧((s.name.toList == nm.toList)=false∨¬s.ver=v) then 10 else 0) else 1
def acceptS (s:CL) (e:Int) (nm:ByteArray) (v:Int):CL:=if acceptE s e nm v=0 then { s with st:=if s.st=1 then 2 else s.st,since:=if s.st=1 then -1 else s.since,name:=nm,ver:=v } else s
def sayE (s:CL) (a:Int):Int:=if a<0∨15<a then 1 else if (¬s.st=2∧¬s.st=4)∨(s.name.toList == [])=true then 8 else if 200≤s.ans.length then 3 else 0
def sayS (s:CL) (a:Int):CL:=if sayE s a=0 then { s with st:=2,ans:=s.ans++[a] } else s
def hangE (s:CL) (t:Int):Int:=if vN t 0=true then (if s.st=3∨s.st=5 then 8 else 0) else 1
def hangS (s:CL) (t:Int):CL:=if hangE s t=0 then { s with st:=3,since:=if s.st=1 then s.since else t } else s
def backE (s:CL) (e:Int):Int:=if vN e 1=true then (if ¬e=s.ep then 9 else if s.st=3 then 0 else 8) else 1
def backS (s:CL) (e:Int):CL:=if backE s e=0 then { s with st:=4,since:=-1 } else s
def closeE (s:CL) (e:Int):Int:=if vN e 1=true then (if ¬e=s.ep then 9 else if s.st=5 then 8 else 0) else 1
def closeS (s:CL) (e:Int):CL:=if closeE s e=0 then { s with st:=5,since:=-1 } else s
def CL.cells (s:CL) (A:Option Addr) (c:Nat):List Value:=[.int .i64 s.call,.int .i64 s.st,.int .i64 s.since,.int .i64 s.cen,.int .i64 s.ep,.string s.name,.int .i64 s.ver,.slice A s.ans.length c]
def icells (l:List Int):List Value:=l.map (Value.int .i64)
structure LineAt (w:World) (lb:Nat) (r:Option Nat) (A:Option Addr) (c:Nat) (s:CL):Prop where
 top:Blk w lb 151 (s.cells A c).toArray
 row:Own w 0 3 1 (.slice A s.ans.length c) s.ans.length (icells s.ans)
 at_:A.map (·.block)=r
 ne:∀ g,r=some g→g≠lb
def LPost (w:World) (lb:Nat) (r:Option Nat) (s:CL) (v:Value) (e:Ending) (w':World):Prop :=
 ∃ r' A' c',e=.returned v∧LineAt w' lb r' A' c' s∧Keep (fun i=>i=lb∨some i=r) w w'∧(∀ g,r'=some g→r=some g∨w.heap.size≤g)
section
variable {w w':World} {S:Nat→Prop} {lb:Nat} {r:Option Nat} {A:Option Addr} {c:Nat} {s s':CL}
theorem LineAt.ownBlock (h:LineAt w lb r A c s):(Value.slice A s.ans.length c).ownBlock=r:=by
 rw [←h.at_]
 cases A <;> rfl
theorem LineAt.lt (h:LineAt w lb r A c s) (g:Nat) (e:r=some g):g<w.heap.size:=h.row.lt g (by rw [h.ownBlock];exact e)
theorem LineAt.keep (h:LineAt w lb r A c s) (hk:Keep S w w') (h1:¬S lb) (h2:∀ g,r=some g→¬S g):LineAt w' lb r A c s :=
 ⟨h.top.keep hk h1,h.row.keepB hk (fun g e=>h2 g (by rw [←h.ownBlock];exact e)),h.at_,h.ne⟩
theorem LineAt.same (h:LineAt w lb r A c s) (hk:Same w w'):LineAt w' lb r A c s:=h.keep hk (fun f=>f) (fun _ _ f=>f)
theorem LineAt.cs (h:LineAt w lb r A c s):w.cell? ⟨lb,0,none⟩=some (.int .i64 s.call)∧w.cell? ⟨lb,1,none⟩=some (.int .i64 s.st)∧w.cell? ⟨lb,2,none⟩=some (.int .i64 s.since)∧w.cell? ⟨lb,3,none⟩=some (.int .i64 s.cen) ∧
 w.cell? ⟨lb,4,none⟩=some (.int .i64 s.ep)∧w.cell? ⟨lb,5,none⟩=some (.string s.name)∧w.cell? ⟨lb,6,none⟩=some (.int .i64 s.ver)∧w.cell? ⟨lb,7,none⟩=some (.slice A s.ans.length c) :=
 ⟨h.top.at_ 0,h.top.at_ 1,h.top.at_ 2,h.top.at_ 3,h.top.at_ 4,h.top.at_ 5,h.top.at_ 6,h.top.at_ 7⟩
theorem LineAt.sl (h:LineAt w lb r A c s):Sl w (fun i=>i=lb∨¬some i=r) 1 A s.ans.length (icells s.ans):=by
 have:=h.row.sl (Av:=fun _=>False) (fun _ _ f=>f)
 refine ⟨this.len,fun hn=>?_⟩
 obtain ⟨b,off,e,h1,_,h3⟩:=this.at_ hn
 have hr:r=some b:=by rw [←h.at_,e];rfl
 exact ⟨b,off,e,h1,fun hs=>by
  rcases hs with hs | hs
  ·exact h.ne b hr hs
  ·exact hs hr.symm,h3⟩
theorem LPost.put {v:Value} (h:LineAt w lb r A c s) (hb:Blk w' lb 151 (s'.cells A c).toArray) (hk:Keep (· = lb) w w') (ha:s'.ans=s.ans):LPost w lb r s' v (.returned v) w':=by
 refine ⟨r,A,c,rfl,⟨hb,?_,h.at_,h.ne⟩,hk.wide (fun _ _ e=>.inl e),fun g e=>.inl e⟩
 rw [ha]
 exact h.row.keepB hk (fun g e=>h.ne g (by rw [←h.ownBlock];exact e))
theorem LPost.self {v:Value} (h:LineAt w lb r A c s):LPost w lb r s v (.returned v) w:=⟨r,A,c,rfl,h,Keep.refl _ _,fun _g e=>.inl e⟩
end
def BPost (w:World) (v:Value) (e:Ending) (w':World):Prop:=e=.returned v∧w=w'
theorem number_any (w:World) (n lo:Int):Calls Tryz.prog 129 #[.int .i64 n,.int .i64 lo] w (BPost w (.bool (vN n lo))):=by
 by_cases h1:lo≤n
 all_goals
  go_enter Tryz.func129,Tryz.ntmps129
  go_wp2
  go_ret
  exact ⟨by simp [vN,h1] <;> (intro;omega),rfl⟩
theorem validTick_any (w:World) (n:Int):Calls Tryz.prog 117 #[.int .i64 n] w (BPost w (.bool (vN n 0))):=by
 by_cases h1:0≤n
 all_goals
  go_enter Tryz.func117,Tryz.ntmps117
  go_wp2
  go_ret
  exact ⟨by simp [vN,h1] <;> (intro;omega),rfl⟩
theorem validEpoch_any (w:World) (n:Int):Calls Tryz.prog 120 #[.int .i64 n] w (BPost w (.bool (vN n 1))):=by
 by_cases h1:1≤n
 all_goals
  go_enter Tryz.func120,Tryz.ntmps120
  go_wp2
  go_ret
  exact ⟨by simp [vN,h1] <;> (intro;omega),rfl⟩
theorem validCall_any (w:World) (n:Int):Calls Tryz.prog 116 #[.int .i64 n] w (BPost w (.bool (vN n 1))):=by
 by_cases h1:1≤n
 all_goals
  go_enter Tryz.func116,Tryz.ntmps116
  go_wp2
  go_ret
  exact ⟨by simp [vN,h1] <;> (intro;omega),rfl⟩
theorem validCentre_any (w:World) (n:Int):Calls Tryz.prog 135 #[.int .i64 n] w (BPost w (.bool (vC n))):=by
 by_cases h1:0≤n
 all_goals
  go_enter Tryz.func135,Tryz.ntmps135
  go_wp2
  go_ret
  exact ⟨by simp [vC,h1] <;> (intro;omega),rfl⟩
theorem validProtocol_any (w:World) (s:ByteArray) (v:Int):Calls Tryz.prog 121 #[.string s,.int .i64 v] w (BPost w (.bool (vP s.size v))):=by
 generalize hz:s.size=z
 by_cases h1:(1:Int)≤(z:Int)
 ·by_cases h2:(z:Int)≤40
  ·by_cases h3:1≤v
   all_goals
    go_enter Tryz.func121,Tryz.ntmps121
    go_wp2
    go_ret
    exact ⟨by have e1:1≤z:=by omega
              have e2:z≤40:=by omega
              simp [vP,e1,e2,h3] <;> (intro;omega),rfl⟩
  ·go_enter Tryz.func121,Tryz.ntmps121
   go_wp2
   go_ret
   exact ⟨by have e2:¬z≤40:=by omega
             simp [vP,e2],rfl⟩
 ·go_enter Tryz.func121,Tryz.ntmps121
  go_wp2
  go_ret
  exact ⟨by have e2:¬1≤z:=by omega
            simp [vP,e2],rfl⟩
section
variable (w:World) (lb:Nat) (r:Option Nat) (A:Option Addr) (c:Nat) (s:CL) (h:LineAt w lb r A c s)
include h
theorem state_any:Calls Tryz.prog 39 #[.pointer (some ⟨lb,0,none⟩)] w (BPost w (.int .i64 s.st)):=by
 obtain ⟨_,c1,_⟩:=h.cs
 have hlt:=h.top.lt
 clear h
 go_enter Tryz.func39,Tryz.ntmps39
 go_wp2
 go_ret
 exact ⟨rfl,rfl⟩
theorem owner_any:Calls Tryz.prog 40 #[.pointer (some ⟨lb,0,none⟩)] w (fun e w'=>e=.returned (.tuple #[.int .i64 s.cen,.int .i64 s.ep])∧Same w w'):=by
 obtain ⟨_,_,_,c3,c4,_⟩:=h.cs
 have hlt:=h.top.lt
 clear h
 go_enter Tryz.func40,Tryz.ntmps40
 go_wp2
 go_quiet (fail)
 go_wp2
 go_ret2
 exact ⟨rfl,(Keep.refl _ w).drewN _⟩
theorem checkOwner_any (e:Int):Calls Tryz.prog 72 #[.pointer (some ⟨lb,0,none⟩),.int .i64 e] w (BPost w (.int .i64 (if vN e 1=true then (if e=s.ep then 0 else 9) else 1))):=by
 obtain ⟨_,_,_,c3,c4,_⟩:=h.cs
 have hlt:=h.top.lt
 have HV:=hid (validEpoch_any w e)
 clear h
 generalize s.ep=ep at *
 obtain ⟨b,hb⟩:∃ b,vN e 1=b:=⟨_,rfl⟩
 rw [hb] at HV ⊢
 cases b
 ·go_enter Tryz.func72,Tryz.ntmps72
  go_wp2_with fail
  refine HV.out.mono ?_
  rintro e w1 ⟨rfl,rfl⟩
  go_wp2
  go_ret
  exact ⟨rfl,rfl⟩
 ·by_cases he:e=ep
  ·subst he
   go_enter Tryz.func72,Tryz.ntmps72
   go_wp2_with fail
   refine HV.out.mono ?_
   rintro e w1 ⟨rfl,rfl⟩
   go_wp2
   go_ret
   exact ⟨by simp,rfl⟩
  ·have hne:(e == ep)=false:=by simpa using he
   go_enter Tryz.func72,Tryz.ntmps72
   go_wp2_with fail
   refine HV.out.mono ?_
   rintro e w1 ⟨rfl,rfl⟩
   go_wp2
   go_ret
   exact ⟨by simp,rfl⟩
end
section
variable (w:World) (lb:Nat) (r:Option Nat) (A:Option Addr) (c:Nat) (s:CL) (h:LineAt w lb r A c s)
include h
set_option maxHeartbeats 4000000 in
theorem assign_any (x e t:Int):Calls Tryz.prog 119 #[.pointer (some ⟨lb,0,none⟩),.int .i64 x,.int .i64 e,.int .i64 t] w (LPost w lb r (assignS s x e t) (.int .i64 (assignE s x e t))):=by
 obtain ⟨c0,c1,c2,c3,c4,c5,c6,c7⟩:=h.cs
 have f0:=h.top.free 0
 have f1:=h.top.free 1
 have f2:=h.top.free 2
 have f3:=h.top.free 3
 have f4:=h.top.free 4
 have f5:=h.top.free 5
 have f6:=h.top.free 6
 have f7:=h.top.free 7
 have hlt:=h.top.lt
 have H:=hid h
 have HC:=hid (validCentre_any w x)
 have HV:=hid (validEpoch_any w e)
 have HT:=hid (validTick_any w t)
 obtain ⟨call,st,since,cen,ep,name,ver,ans⟩:=s
 simp only at c0 c1 c2 c3 c4 c5 c6 c7
 clear h
 obtain ⟨bx,hbx⟩:∃ bb,(vC x)=bb:=⟨_,rfl⟩
 cases bx with
 | false =>
   rw [hbx] at HC
   have hE:assignE ⟨call,st,since,cen,ep,name,ver,ans⟩ x e t=1:=by simp [assignE,hbx]
   have hS:assignS ⟨call,st,since,cen,ep,name,ver,ans⟩ x e t=⟨call,st,since,cen,ep,name,ver,ans⟩:=by unfold assignS;rw [hE];simp
   rw [hE,hS]
   clear hE hS
   go_enter Tryz.func119,Tryz.ntmps119
   go_wp2_with (first
    | (go_at_call 117;refine HT.out.mono ?_;rintro e1 w1 ⟨rfl,rfl⟩)
    | (go_at_call 120;refine HV.out.mono ?_;rintro e1 w1 ⟨rfl,rfl⟩)
    | (go_at_call 135;refine HC.out.mono ?_;rintro e1 w1 ⟨rfl,rfl⟩)
    | (go_at_call 121;refine HP.out.mono ?_;rintro e1 w1 ⟨rfl,rfl⟩)
    | (go_at_call 72;refine HO.out.mono ?_;rintro e1 w1 ⟨rfl,rfl⟩))
   go_ret
   exact LPost.self H.out
 | true =>
   rw [hbx] at HC
   obtain ⟨be,hbe⟩:∃ bb,(vN e 1)=bb:=⟨_,rfl⟩
   cases be with
   | false =>
     rw [hbe] at HV
     have hE:assignE ⟨call,st,since,cen,ep,name,ver,ans⟩ x e t=1:=by simp [assignE,hbx,hbe]
     have hS:assignS ⟨call,st,since,cen,ep,name,ver,ans⟩ x e t=⟨call,st,since,cen,ep,name,ver,ans⟩:=by unfold assignS;rw [hE];simp
     rw [hE,hS]
     clear hE hS
     go_enter Tryz.func119,Tryz.ntmps119
     go_wp2_with (first
      | (go_at_call 117;refine HT.out.mono ?_;rintro e1 w1 ⟨rfl,rfl⟩)
      | (go_at_call 120;refine HV.out.mono ?_;rintro e1 w1 ⟨rfl,rfl⟩)
      | (go_at_call 135;refine HC.out.mono ?_;rintro e1 w1 ⟨rfl,rfl⟩)
      | (go_at_call 121;refine HP.out.mono ?_;rintro e1 w1 ⟨rfl,rfl⟩)
      | (go_at_call 72;refine HO.out.mono ?_;rintro e1 w1 ⟨rfl,rfl⟩))
     go_ret
     exact LPost.self H.out
   | true =>
     rw [hbe] at HV
     obtain ⟨bt,hbt⟩:∃ bb,(vN t 0)=bb:=⟨_,rfl⟩
     cases bt with
     | false =>
       rw [hbt] at HT
       have hE:assignE ⟨call,st,since,cen,ep,name,ver,ans⟩ x e t=1:=by simp [assignE,hbx,hbe,hbt]
       have hS:assignS ⟨call,st,since,cen,ep,name,ver,ans⟩ x e t=⟨call,st,since,cen,ep,name,ver,ans⟩:=by unfold assignS;rw [hE];simp
       rw [hE,hS]
       clear hE hS
       go_enter Tryz.func119,Tryz.ntmps119
       go_wp2_with (first
        | (go_at_call 117;refine HT.out.mono ?_;rintro e1 w1 ⟨rfl,rfl⟩)
        | (go_at_call 120;refine HV.out.mono ?_;rintro e1 w1 ⟨rfl,rfl⟩)
        | (go_at_call 135;refine HC.out.mono ?_;rintro e1 w1 ⟨rfl,rfl⟩)
        | (go_at_call 121;refine HP.out.mono ?_;rintro e1 w1 ⟨rfl,rfl⟩)
        | (go_at_call 72;refine HO.out.mono ?_;rintro e1 w1 ⟨rfl,rfl⟩))
       go_ret
       exact LPost.self H.out
     | true =>
       rw [hbt] at HT
       by_cases h1:e≤ep
       ·have hE:assignE ⟨call,st,since,cen,ep,name,ver,ans⟩ x e t=9:=by simp [assignE,hbx,hbe,hbt,h1]
        have hS:assignS ⟨call,st,since,cen,ep,name,ver,ans⟩ x e t=⟨call,st,since,cen,ep,name,ver,ans⟩:=by unfold assignS;rw [hE];simp
        rw [hE,hS]
        clear hE hS
        go_enter Tryz.func119,Tryz.ntmps119
        go_wp2_with (first
         | (go_at_call 117;refine HT.out.mono ?_;rintro e1 w1 ⟨rfl,rfl⟩)
         | (go_at_call 120;refine HV.out.mono ?_;rintro e1 w1 ⟨rfl,rfl⟩)
         | (go_at_call 135;refine HC.out.mono ?_;rintro e1 w1 ⟨rfl,rfl⟩)
         | (go_at_call 121;refine HP.out.mono ?_;rintro e1 w1 ⟨rfl,rfl⟩)
         | (go_at_call 72;refine HO.out.mono ?_;rintro e1 w1 ⟨rfl,rfl⟩))
        go_ret
        exact LPost.self H.out
       ·by_cases hst5:st=5
        ·have ghst5:(st == (5:Int))=true:=by simpa using hst5
         have hE:assignE ⟨call,st,since,cen,ep,name,ver,ans⟩ x e t=8:=by simp [assignE,hbx,hbe,hbt,h1,hst5]
         have hS:assignS ⟨call,st,since,cen,ep,name,ver,ans⟩ x e t=⟨call,st,since,cen,ep,name,ver,ans⟩:=by unfold assignS;rw [hE];simp [hst5]
         rw [hE,hS]
         clear hE hS
         go_enter Tryz.func119,Tryz.ntmps119
         go_wp2_with (first
          | (go_at_call 117;refine HT.out.mono ?_;rintro e1 w1 ⟨rfl,rfl⟩)
          | (go_at_call 120;refine HV.out.mono ?_;rintro e1 w1 ⟨rfl,rfl⟩)
          | (go_at_call 135;refine HC.out.mono ?_;rintro e1 w1 ⟨rfl,rfl⟩)
          | (go_at_call 121;refine HP.out.mono ?_;rintro e1 w1 ⟨rfl,rfl⟩)
          | (go_at_call 72;refine HO.out.mono ?_;rintro e1 w1 ⟨rfl,rfl⟩))
         go_ret
         exact LPost.self H.out
        ·have ghst5:(st == (5:Int))=false:=by simpa using hst5
         by_cases hst2:st=2
         ·have ghst2:(st == (2:Int))=true:=by simpa using hst2
          have hE:assignE ⟨call,st,since,cen,ep,name,ver,ans⟩ x e t=0:=by simp [assignE,hbx,hbe,hbt,h1,hst2]
          have hS:assignS ⟨call,st,since,cen,ep,name,ver,ans⟩ x e t=⟨call,1,t,x,e,name,ver,ans⟩:=by unfold assignS;rw [hE];simp [hst2]
          rw [hE,hS]
          clear hE hS
          go_enter Tryz.func119,Tryz.ntmps119
          go_wp2_with (first
           | (go_at_call 117;refine HT.out.mono ?_;rintro e1 w1 ⟨rfl,rfl⟩)
           | (go_at_call 120;refine HV.out.mono ?_;rintro e1 w1 ⟨rfl,rfl⟩)
           | (go_at_call 135;refine HC.out.mono ?_;rintro e1 w1 ⟨rfl,rfl⟩)
           | (go_at_call 121;refine HP.out.mono ?_;rintro e1 w1 ⟨rfl,rfl⟩)
           | (go_at_call 72;refine HO.out.mono ?_;rintro e1 w1 ⟨rfl,rfl⟩))
          go_ret
          exact LPost.put H.out ((((H.out.top.put 1 (.int .i64 1)).put 2 (.int .i64 t)).put 3 (.int .i64 x)).put 4 (.int .i64 e)) (((((Keep.refl _ w).put 1 (.int .i64 1)).put 2 (.int .i64 t)).put 3 (.int .i64 x)).put 4 (.int .i64 e)) rfl
         ·have ghst2:(st == (2:Int))=false:=by simpa using hst2
          by_cases hst4:st=4
          ·have ghst4:(st == (4:Int))=true:=by simpa using hst4
           have hE:assignE ⟨call,st,since,cen,ep,name,ver,ans⟩ x e t=0:=by simp [assignE,hbx,hbe,hbt,h1,hst4]
           have hS:assignS ⟨call,st,since,cen,ep,name,ver,ans⟩ x e t=⟨call,3,t,x,e,name,ver,ans⟩:=by unfold assignS;rw [hE];simp [hst4]
           rw [hE,hS]
           clear hE hS
           go_enter Tryz.func119,Tryz.ntmps119
           go_wp2_with (first
            | (go_at_call 117;refine HT.out.mono ?_;rintro e1 w1 ⟨rfl,rfl⟩)
            | (go_at_call 120;refine HV.out.mono ?_;rintro e1 w1 ⟨rfl,rfl⟩)
            | (go_at_call 135;refine HC.out.mono ?_;rintro e1 w1 ⟨rfl,rfl⟩)
            | (go_at_call 121;refine HP.out.mono ?_;rintro e1 w1 ⟨rfl,rfl⟩)
            | (go_at_call 72;refine HO.out.mono ?_;rintro e1 w1 ⟨rfl,rfl⟩))
           go_ret
           exact LPost.put H.out ((((H.out.top.put 1 (.int .i64 3)).put 2 (.int .i64 t)).put 3 (.int .i64 x)).put 4 (.int .i64 e)) (((((Keep.refl _ w).put 1 (.int .i64 3)).put 2 (.int .i64 t)).put 3 (.int .i64 x)).put 4 (.int .i64 e)) rfl
          ·have ghst4:(st == (4:Int))=false:=by simpa using hst4
           have hE:assignE ⟨call,st,since,cen,ep,name,ver,ans⟩ x e t=0:=by simp [assignE,hbx,hbe,hbt,h1,hst5]
           have hS:assignS ⟨call,st,since,cen,ep,name,ver,ans⟩ x e t=⟨call,st,since,x,e,name,ver,ans⟩:=by unfold assignS;rw [hE];simp [hst2,hst4]
           rw [hE,hS]
           clear hE hS
           go_enter Tryz.func119,Tryz.ntmps119
           go_wp2_with (first
            | (go_at_call 117;refine HT.out.mono ?_;rintro e1 w1 ⟨rfl,rfl⟩)
            | (go_at_call 120;refine HV.out.mono ?_;rintro e1 w1 ⟨rfl,rfl⟩)
            | (go_at_call 135;refine HC.out.mono ?_;rintro e1 w1 ⟨rfl,rfl⟩)
            | (go_at_call 121;refine HP.out.mono ?_;rintro e1 w1 ⟨rfl,rfl⟩)
            | (go_at_call 72;refine HO.out.mono ?_;rintro e1 w1 ⟨rfl,rfl⟩))
           go_ret
           exact LPost.put H.out ((H.out.top.put 3 (.int .i64 x)).put 4 (.int .i64 e)) (((Keep.refl _ w).put 3 (.int .i64 x)).put 4 (.int .i64 e)) rfl
set_option maxHeartbeats 4000000 in
theorem accept_any (e:Int) (nm:ByteArray) (v:Int):Calls Tryz.prog 71 #[.pointer (some ⟨lb,0,none⟩),.int .i64 e,.string nm,.int .i64 v] w (LPost w lb r (acceptS s e nm v) (.int .i64 (acceptE s e nm v))):=by
 obtain ⟨c0,c1,c2,c3,c4,c5,c6,c7⟩:=h.cs
 have f0:=h.top.free 0
 have f1:=h.top.free 1
 have f2:=h.top.free 2
 have f3:=h.top.free 3
 have f4:=h.top.free 4
 have f5:=h.top.free 5
 have f6:=h.top.free 6
 have f7:=h.top.free 7
 have hlt:=h.top.lt
 have H:=hid h
 have HV:=hid (validEpoch_any w e)
 have HP:=hid (validProtocol_any w nm v)
 obtain ⟨call,st,since,cen,ep,name,ver,ans⟩:=s
 simp only at c0 c1 c2 c3 c4 c5 c6 c7
 clear h
 obtain ⟨be,hbe⟩:∃ bb,(vN e 1)=bb:=⟨_,rfl⟩
 cases be with
 | false =>
   rw [hbe] at HV
   have hE:acceptE ⟨call,st,since,cen,ep,name,ver,ans⟩ e nm v=1:=by simp [acceptE,hbe]
   have hS:acceptS ⟨call,st,since,cen,ep,name,ver,ans⟩ e nm v=⟨call,st,since,cen,ep,name,ver,ans⟩:=by unfold acceptS;rw [hE];simp
   rw [hE,hS]
   clear hE hS
   go_enter Tryz.func71,Tryz.ntmps71
   go_wp2_with (first
    | (go_at_call 117;refine HT.out.mono ?_;rintro e1 w1 ⟨rfl,rfl⟩)
    | (go_at_call 120;refine HV.out.mono ?_;rintro e1 w1 ⟨rfl,rfl⟩)
    | (go_at_call 135;refine HC.out.mono ?_;rintro e1 w1 ⟨rfl,rfl⟩)
    | (go_at_call 121;refine HP.out.mono ?_;rintro e1 w1 ⟨rfl,rfl⟩)
    | (go_at_call 72;refine HO.out.mono ?_;rintro e1 w1 ⟨rfl,rfl⟩))
   go_ret
   exact LPost.self H.out
 | true =>
   rw [hbe] at HV
   obtain ⟨bp,hbp⟩:∃ bb,(vP nm.size v)=bb:=⟨_,rfl⟩
   cases bp with
   | false =>
     rw [hbp] at HP
     have hE:acceptE ⟨call,st,since,cen,ep,name,ver,ans⟩ e nm v=1:=by simp [acceptE,hbe,hbp]
     have hS:acceptS ⟨call,st,since,cen,ep,name,ver,ans⟩ e nm v=⟨call,st,since,cen,ep,name,ver,ans⟩:=by unfold acceptS;rw [hE];simp
     rw [hE,hS]
     clear hE hS
     go_enter Tryz.func71,Tryz.ntmps71
     go_wp2_with (first
      | (go_at_call 117;refine HT.out.mono ?_;rintro e1 w1 ⟨rfl,rfl⟩)
      | (go_at_call 120;refine HV.out.mono ?_;rintro e1 w1 ⟨rfl,rfl⟩)
      | (go_at_call 135;refine HC.out.mono ?_;rintro e1 w1 ⟨rfl,rfl⟩)
      | (go_at_call 121;refine HP.out.mono ?_;rintro e1 w1 ⟨rfl,rfl⟩)
      | (go_at_call 72;refine HO.out.mono ?_;rintro e1 w1 ⟨rfl,rfl⟩))
     go_ret
     exact LPost.self H.out
   | true =>
     rw [hbp] at HP
     by_cases h1:e=ep
     ·subst h1
      by_cases hst5:st=5
      ·have ghst5:(st == (5:Int))=true:=by simpa using hst5
       have hE:acceptE ⟨call,st,since,cen,e,name,ver,ans⟩ e nm v=8:=by simp [acceptE,hbe,hbp,hst5]
       have hS:acceptS ⟨call,st,since,cen,e,name,ver,ans⟩ e nm v=⟨call,st,since,cen,e,name,ver,ans⟩:=by unfold acceptS;rw [hE];simp [hst5]
       rw [hE,hS]
       clear hE hS
       go_enter Tryz.func71,Tryz.ntmps71
       go_wp2_with (first
        | (go_at_call 117;refine HT.out.mono ?_;rintro e1 w1 ⟨rfl,rfl⟩)
        | (go_at_call 120;refine HV.out.mono ?_;rintro e1 w1 ⟨rfl,rfl⟩)
        | (go_at_call 135;refine HC.out.mono ?_;rintro e1 w1 ⟨rfl,rfl⟩)
        | (go_at_call 121;refine HP.out.mono ?_;rintro e1 w1 ⟨rfl,rfl⟩)
        | (go_at_call 72;refine HO.out.mono ?_;rintro e1 w1 ⟨rfl,rfl⟩))
       go_ret
       exact LPost.self H.out
      ·have ghst5:(st == (5:Int))=false:=by simpa using hst5
       obtain ⟨bn,hbn⟩:∃ bb,(name.toList == [])=bb:=⟨_,rfl⟩
       cases bn with
       | false =>
         obtain ⟨bq,hbq⟩:∃ bb,(name.toList == nm.toList)=bb:=⟨_,rfl⟩
         cases bq with
         | false =>
           have hE:acceptE ⟨call,st,since,cen,e,name,ver,ans⟩ e nm v=10:=by simp [acceptE,hbe,hbp,hst5,hbn,hbq]
           have hS:acceptS ⟨call,st,since,cen,e,name,ver,ans⟩ e nm v=⟨call,st,since,cen,e,name,ver,ans⟩:=by unfold acceptS;rw [hE];simp
           rw [hE,hS]
           clear hE hS
           go_enter Tryz.func71,Tryz.ntmps71
           go_wp2_with (first
            | (go_at_call 117;refine HT.out.mono ?_;rintro e1 w1 ⟨rfl,rfl⟩)
            | (go_at_call 120;refine HV.out.mono ?_;rintro e1 w1 ⟨rfl,rfl⟩)
            | (go_at_call 135;refine HC.out.mono ?_;rintro e1 w1 ⟨rfl,rfl⟩)
            | (go_at_call 121;refine HP.out.mono ?_;rintro e1 w1 ⟨rfl,rfl⟩)
            | (go_at_call 72;refine HO.out.mono ?_;rintro e1 w1 ⟨rfl,rfl⟩))
           go_ret
           exact LPost.self H.out
         | true =>
           by_cases h2:ver=v
           ·subst h2
            by_cases hst1:st=1
            ·have ghst1:(st == (1:Int))=true:=by simpa using hst1
             have hE:acceptE ⟨call,st,since,cen,e,name,ver,ans⟩ e nm ver=0:=by simp [acceptE,hbe,hbp,hbn,hbq,hst1]
             have hS:acceptS ⟨call,st,since,cen,e,name,ver,ans⟩ e nm ver=⟨call,2,-1,cen,e,nm,ver,ans⟩:=by unfold acceptS;rw [hE];simp [hst1]
             rw [hE,hS]
             clear hE hS
             go_enter Tryz.func71,Tryz.ntmps71
             go_wp2_with (first
              | (go_at_call 117;refine HT.out.mono ?_;rintro e1 w1 ⟨rfl,rfl⟩)
              | (go_at_call 120;refine HV.out.mono ?_;rintro e1 w1 ⟨rfl,rfl⟩)
              | (go_at_call 135;refine HC.out.mono ?_;rintro e1 w1 ⟨rfl,rfl⟩)
              | (go_at_call 121;refine HP.out.mono ?_;rintro e1 w1 ⟨rfl,rfl⟩)
              | (go_at_call 72;refine HO.out.mono ?_;rintro e1 w1 ⟨rfl,rfl⟩))
             go_ret
             exact LPost.put H.out ((((H.out.top.put 5 (.string nm)).put 6 (.int .i64 ver)).put 1 (.int .i64 2)).put 2 (.int .i64 (-1))) (((((Keep.refl _ w).put 5 (.string nm)).put 6 (.int .i64 ver)).put 1 (.int .i64 2)).put 2 (.int .i64 (-1))) rfl
            ·have ghst1:(st == (1:Int))=false:=by simpa using hst1
             have hE:acceptE ⟨call,st,since,cen,e,name,ver,ans⟩ e nm ver=0:=by simp [acceptE,hbe,hbp,hst5,hbn,hbq]
             have hS:acceptS ⟨call,st,since,cen,e,name,ver,ans⟩ e nm ver=⟨call,st,since,cen,e,nm,ver,ans⟩:=by unfold acceptS;rw [hE];simp [hst1]
             rw [hE,hS]
             clear hE hS
             go_enter Tryz.func71,Tryz.ntmps71
             go_wp2_with (first
              | (go_at_call 117;refine HT.out.mono ?_;rintro e1 w1 ⟨rfl,rfl⟩)
              | (go_at_call 120;refine HV.out.mono ?_;rintro e1 w1 ⟨rfl,rfl⟩)
              | (go_at_call 135;refine HC.out.mono ?_;rintro e1 w1 ⟨rfl,rfl⟩)
              | (go_at_call 121;refine HP.out.mono ?_;rintro e1 w1 ⟨rfl,rfl⟩)
              | (go_at_call 72;refine HO.out.mono ?_;rintro e1 w1 ⟨rfl,rfl⟩))
             go_ret
             exact LPost.put H.out ((H.out.top.put 5 (.string nm)).put 6 (.int .i64 ver)) (((Keep.refl _ w).put 5 (.string nm)).put 6 (.int .i64 ver)) rfl
           ·have gh2:(ver == v)=false:=by simpa using h2
            have hE:acceptE ⟨call,st,since,cen,e,name,ver,ans⟩ e nm v=10:=by simp [acceptE,hbe,hbp,hst5,hbn,hbq,h2]
            have hS:acceptS ⟨call,st,since,cen,e,name,ver,ans⟩ e nm v=⟨call,st,since,cen,e,name,ver,ans⟩:=by unfold acceptS;rw [hE];simp
            rw [hE,hS]
            clear hE hS
            go_enter Tryz.func71,Tryz.ntmps71
            go_wp2_with (first
             | (go_at_call 117;refine HT.out.mono ?_;rintro e1 w1 ⟨rfl,rfl⟩)
             | (go_at_call 120;refine HV.out.mono ?_;rintro e1 w1 ⟨rfl,rfl⟩)
             | (go_at_call 135;refine HC.out.mono ?_;rintro e1 w1 ⟨rfl,rfl⟩)
             | (go_at_call 121;refine HP.out.mono ?_;rintro e1 w1 ⟨rfl,rfl⟩)
             | (go_at_call 72;refine HO.out.mono ?_;rintro e1 w1 ⟨rfl,rfl⟩))
            go_ret
            exact LPost.self H.out
       | true =>
         by_cases hst1:st=1
         ·have ghst1:(st == (1:Int))=true:=by simpa using hst1
          have hE:acceptE ⟨call,st,since,cen,e,name,ver,ans⟩ e nm v=0:=by simp [acceptE,hbe,hbp,hbn,hst1]
          have hS:acceptS ⟨call,st,since,cen,e,name,ver,ans⟩ e nm v=⟨call,2,-1,cen,e,nm,v,ans⟩:=by unfold acceptS;rw [hE];simp [hst1]
          rw [hE,hS]
          clear hE hS
          go_enter Tryz.func71,Tryz.ntmps71
          go_wp2_with (first
           | (go_at_call 117;refine HT.out.mono ?_;rintro e1 w1 ⟨rfl,rfl⟩)
           | (go_at_call 120;refine HV.out.mono ?_;rintro e1 w1 ⟨rfl,rfl⟩)
           | (go_at_call 135;refine HC.out.mono ?_;rintro e1 w1 ⟨rfl,rfl⟩)
           | (go_at_call 121;refine HP.out.mono ?_;rintro e1 w1 ⟨rfl,rfl⟩)
           | (go_at_call 72;refine HO.out.mono ?_;rintro e1 w1 ⟨rfl,rfl⟩))
          go_ret
          exact LPost.put H.out ((((H.out.top.put 5 (.string nm)).put 6 (.int .i64 v)).put 1 (.int .i64 2)).put 2 (.int .i64 (-1))) (((((Keep.refl _ w).put 5 (.string nm)).put 6 (.int .i64 v)).put 1 (.int .i64 2)).put 2 (.int .i64 (-1))) rfl
         ·have ghst1:(st == (1:Int))=false:=by simpa using hst1
          have hE:acceptE ⟨call,st,since,cen,e,name,ver,ans⟩ e nm v=0:=by simp [acceptE,hbe,hbp,hst5,hbn]
          have hS:acceptS ⟨call,st,since,cen,e,name,ver,ans⟩ e nm v=⟨call,st,since,cen,e,nm,v,ans⟩:=by unfold acceptS;rw [hE];simp [hst1]
          rw [hE,hS]
          clear hE hS
          go_enter Tryz.func71,Tryz.ntmps71
          go_wp2_with (first
           | (go_at_call 117;refine HT.out.mono ?_;rintro e1 w1 ⟨rfl,rfl⟩)
           | (go_at_call 120;refine HV.out.mono ?_;rintro e1 w1 ⟨rfl,rfl⟩)
           | (go_at_call 135;refine HC.out.mono ?_;rintro e1 w1 ⟨rfl,rfl⟩)
           | (go_at_call 121;refine HP.out.mono ?_;rintro e1 w1 ⟨rfl,rfl⟩)
           | (go_at_call 72;refine HO.out.mono ?_;rintro e1 w1 ⟨rfl,rfl⟩))
          go_ret
          exact LPost.put H.out ((H.out.top.put 5 (.string nm)).put 6 (.int .i64 v)) (((Keep.refl _ w).put 5 (.string nm)).put 6 (.int .i64 v)) rfl
     ·have gh1:(e == ep)=false:=by simpa using h1
      have hE:acceptE ⟨call,st,since,cen,ep,name,ver,ans⟩ e nm v=9:=by simp [acceptE,hbe,hbp,h1]
      have hS:acceptS ⟨call,st,since,cen,ep,name,ver,ans⟩ e nm v=⟨call,st,since,cen,ep,name,ver,ans⟩:=by unfold acceptS;rw [hE];simp
      rw [hE,hS]
      clear hE hS
      go_enter Tryz.func71,Tryz.ntmps71
      go_wp2_with (first
       | (go_at_call 117;refine HT.out.mono ?_;rintro e1 w1 ⟨rfl,rfl⟩)
       | (go_at_call 120;refine HV.out.mono ?_;rintro e1 w1 ⟨rfl,rfl⟩)
       | (go_at_call 135;refine HC.out.mono ?_;rintro e1 w1 ⟨rfl,rfl⟩)
       | (go_at_call 121;refine HP.out.mono ?_;rintro e1 w1 ⟨rfl,rfl⟩)
       | (go_at_call 72;refine HO.out.mono ?_;rintro e1 w1 ⟨rfl,rfl⟩))
      go_ret
      exact LPost.self H.out
set_option maxHeartbeats 4000000 in
theorem hang_any (t:Int):Calls Tryz.prog 110 #[.pointer (some ⟨lb,0,none⟩),.int .i64 t] w (LPost w lb r (hangS s t) (.int .i64 (hangE s t))):=by
 obtain ⟨c0,c1,c2,c3,c4,c5,c6,c7⟩:=h.cs
 have f0:=h.top.free 0
 have f1:=h.top.free 1
 have f2:=h.top.free 2
 have f3:=h.top.free 3
 have f4:=h.top.free 4
 have f5:=h.top.free 5
 have f6:=h.top.free 6
 have f7:=h.top.free 7
 have hlt:=h.top.lt
 have H:=hid h
 have HT:=hid (validTick_any w t)
 obtain ⟨call,st,since,cen,ep,name,ver,ans⟩:=s
 simp only at c0 c1 c2 c3 c4 c5 c6 c7
 clear h
 obtain ⟨bt,hbt⟩:∃ bb,(vN t 0)=bb:=⟨_,rfl⟩
 cases bt with
 | false =>
   rw [hbt] at HT
   have hE:hangE ⟨call,st,since,cen,ep,name,ver,ans⟩ t=1:=by simp [hangE,hbt]
   have hS:hangS ⟨call,st,since,cen,ep,name,ver,ans⟩ t=⟨call,st,since,cen,ep,name,ver,ans⟩:=by unfold hangS;rw [hE];simp
   rw [hE,hS]
   clear hE hS
   go_enter Tryz.func110,Tryz.ntmps110
   go_wp2_with (first
    | (go_at_call 117;refine HT.out.mono ?_;rintro e1 w1 ⟨rfl,rfl⟩)
    | (go_at_call 120;refine HV.out.mono ?_;rintro e1 w1 ⟨rfl,rfl⟩)
    | (go_at_call 135;refine HC.out.mono ?_;rintro e1 w1 ⟨rfl,rfl⟩)
    | (go_at_call 121;refine HP.out.mono ?_;rintro e1 w1 ⟨rfl,rfl⟩)
    | (go_at_call 72;refine HO.out.mono ?_;rintro e1 w1 ⟨rfl,rfl⟩))
   go_ret
   exact LPost.self H.out
 | true =>
   rw [hbt] at HT
   by_cases hst3:st=3
   ·have ghst3:(st == (3:Int))=true:=by simpa using hst3
    have hE:hangE ⟨call,st,since,cen,ep,name,ver,ans⟩ t=8:=by simp [hangE,hbt,hst3]
    have hS:hangS ⟨call,st,since,cen,ep,name,ver,ans⟩ t=⟨call,st,since,cen,ep,name,ver,ans⟩:=by unfold hangS;rw [hE];simp [hst3]
    rw [hE,hS]
    clear hE hS
    go_enter Tryz.func110,Tryz.ntmps110
    go_wp2_with (first
     | (go_at_call 117;refine HT.out.mono ?_;rintro e1 w1 ⟨rfl,rfl⟩)
     | (go_at_call 120;refine HV.out.mono ?_;rintro e1 w1 ⟨rfl,rfl⟩)
     | (go_at_call 135;refine HC.out.mono ?_;rintro e1 w1 ⟨rfl,rfl⟩)
     | (go_at_call 121;refine HP.out.mono ?_;rintro e1 w1 ⟨rfl,rfl⟩)
     | (go_at_call 72;refine HO.out.mono ?_;rintro e1 w1 ⟨rfl,rfl⟩))
    go_ret
    exact LPost.self H.out
   ·have ghst3:(st == (3:Int))=false:=by simpa using hst3
    by_cases hst5:st=5
    ·have ghst5:(st == (5:Int))=true:=by simpa using hst5
     have hE:hangE ⟨call,st,since,cen,ep,name,ver,ans⟩ t=8:=by simp [hangE,hbt,hst5]
     have hS:hangS ⟨call,st,since,cen,ep,name,ver,ans⟩ t=⟨call,st,since,cen,ep,name,ver,ans⟩:=by unfold hangS;rw [hE];simp [hst5]
     rw [hE,hS]
     clear hE hS
     go_enter Tryz.func110,Tryz.ntmps110
     go_wp2_with (first
      | (go_at_call 117;refine HT.out.mono ?_;rintro e1 w1 ⟨rfl,rfl⟩)
      | (go_at_call 120;refine HV.out.mono ?_;rintro e1 w1 ⟨rfl,rfl⟩)
      | (go_at_call 135;refine HC.out.mono ?_;rintro e1 w1 ⟨rfl,rfl⟩)
      | (go_at_call 121;refine HP.out.mono ?_;rintro e1 w1 ⟨rfl,rfl⟩)
      | (go_at_call 72;refine HO.out.mono ?_;rintro e1 w1 ⟨rfl,rfl⟩))
     go_ret
     exact LPost.self H.out
    ·have ghst5:(st == (5:Int))=false:=by simpa using hst5
     by_cases hst1:st=1
     ·have ghst1:(st == (1:Int))=true:=by simpa using hst1
      have hE:hangE ⟨call,st,since,cen,ep,name,ver,ans⟩ t=0:=by simp [hangE,hbt,hst1]
      have hS:hangS ⟨call,st,since,cen,ep,name,ver,ans⟩ t=⟨call,3,since,cen,ep,name,ver,ans⟩:=by unfold hangS;rw [hE];simp [hst1]
      rw [hE,hS]
      clear hE hS
      go_enter Tryz.func110,Tryz.ntmps110
      go_wp2_with (first
       | (go_at_call 117;refine HT.out.mono ?_;rintro e1 w1 ⟨rfl,rfl⟩)
       | (go_at_call 120;refine HV.out.mono ?_;rintro e1 w1 ⟨rfl,rfl⟩)
       | (go_at_call 135;refine HC.out.mono ?_;rintro e1 w1 ⟨rfl,rfl⟩)
       | (go_at_call 121;refine HP.out.mono ?_;rintro e1 w1 ⟨rfl,rfl⟩)
       | (go_at_call 72;refine HO.out.mono ?_;rintro e1 w1 ⟨rfl,rfl⟩))
      go_ret
      exact LPost.put H.out (H.out.top.put 1 (.int .i64 3)) ((Keep.refl _ w).put 1 (.int .i64 3)) rfl
     ·have ghst1:(st == (1:Int))=false:=by simpa using hst1
      have hE:hangE ⟨call,st,since,cen,ep,name,ver,ans⟩ t=0:=by simp [hangE,hbt,hst3,hst5]
      have hS:hangS ⟨call,st,since,cen,ep,name,ver,ans⟩ t=⟨call,3,t,cen,ep,name,ver,ans⟩:=by unfold hangS;rw [hE];simp [hst1]
      rw [hE,hS]
      clear hE hS
      go_enter Tryz.func110,Tryz.ntmps110
      go_wp2_with (first
       | (go_at_call 117;refine HT.out.mono ?_;rintro e1 w1 ⟨rfl,rfl⟩)
       | (go_at_call 120;refine HV.out.mono ?_;rintro e1 w1 ⟨rfl,rfl⟩)
       | (go_at_call 135;refine HC.out.mono ?_;rintro e1 w1 ⟨rfl,rfl⟩)
       | (go_at_call 121;refine HP.out.mono ?_;rintro e1 w1 ⟨rfl,rfl⟩)
       | (go_at_call 72;refine HO.out.mono ?_;rintro e1 w1 ⟨rfl,rfl⟩))
      go_ret
      exact LPost.put H.out ((H.out.top.put 2 (.int .i64 t)).put 1 (.int .i64 3)) (((Keep.refl _ w).put 2 (.int .i64 t)).put 1 (.int .i64 3)) rfl
set_option maxHeartbeats 4000000 in
theorem back_any (e:Int):Calls Tryz.prog 42 #[.pointer (some ⟨lb,0,none⟩),.int .i64 e] w (LPost w lb r (backS s e) (.int .i64 (backE s e))):=by
 obtain ⟨c0,c1,c2,c3,c4,c5,c6,c7⟩:=h.cs
 have f0:=h.top.free 0
 have f1:=h.top.free 1
 have f2:=h.top.free 2
 have f3:=h.top.free 3
 have f4:=h.top.free 4
 have f5:=h.top.free 5
 have f6:=h.top.free 6
 have f7:=h.top.free 7
 have hlt:=h.top.lt
 have H:=hid h
 have HO:=hid (checkOwner_any w lb r A c s h e)
 obtain ⟨call,st,since,cen,ep,name,ver,ans⟩:=s
 simp only at c0 c1 c2 c3 c4 c5 c6 c7
 clear h
 simp only at HO
 obtain ⟨be,hbe⟩:∃ bb,(vN e 1)=bb:=⟨_,rfl⟩
 cases be with
 | false =>
   rw [hbe] at HO
   rw [if_neg (by decide)] at HO
   have hE:backE ⟨call,st,since,cen,ep,name,ver,ans⟩ e=1:=by simp [backE,hbe]
   have hS:backS ⟨call,st,since,cen,ep,name,ver,ans⟩ e=⟨call,st,since,cen,ep,name,ver,ans⟩:=by unfold backS;rw [hE];simp
   rw [hE,hS]
   clear hE hS
   go_enter Tryz.func42,Tryz.ntmps42
   go_wp2_with (first
    | (go_at_call 117;refine HT.out.mono ?_;rintro e1 w1 ⟨rfl,rfl⟩)
    | (go_at_call 120;refine HV.out.mono ?_;rintro e1 w1 ⟨rfl,rfl⟩)
    | (go_at_call 135;refine HC.out.mono ?_;rintro e1 w1 ⟨rfl,rfl⟩)
    | (go_at_call 121;refine HP.out.mono ?_;rintro e1 w1 ⟨rfl,rfl⟩)
    | (go_at_call 72;refine HO.out.mono ?_;rintro e1 w1 ⟨rfl,rfl⟩))
   go_ret
   exact LPost.self H.out
 | true =>
   rw [hbe] at HO
   rw [if_pos rfl] at HO
   by_cases h1:e=ep
   ·subst h1
    rw [if_pos rfl] at HO
    by_cases hst3:st=3
    ·have ghst3:(st == (3:Int))=true:=by simpa using hst3
     have hE:backE ⟨call,st,since,cen,e,name,ver,ans⟩ e=0:=by simp [backE,hbe,hst3]
     have hS:backS ⟨call,st,since,cen,e,name,ver,ans⟩ e=⟨call,4,-1,cen,e,name,ver,ans⟩:=by unfold backS;rw [hE];simp
     rw [hE,hS]
     clear hE hS
     go_enter Tryz.func42,Tryz.ntmps42
     go_wp2_with (first
      | (go_at_call 117;refine HT.out.mono ?_;rintro e1 w1 ⟨rfl,rfl⟩)
      | (go_at_call 120;refine HV.out.mono ?_;rintro e1 w1 ⟨rfl,rfl⟩)
      | (go_at_call 135;refine HC.out.mono ?_;rintro e1 w1 ⟨rfl,rfl⟩)
      | (go_at_call 121;refine HP.out.mono ?_;rintro e1 w1 ⟨rfl,rfl⟩)
      | (go_at_call 72;refine HO.out.mono ?_;rintro e1 w1 ⟨rfl,rfl⟩))
     go_ret
     exact LPost.put H.out ((H.out.top.put 1 (.int .i64 4)).put 2 (.int .i64 (-1))) (((Keep.refl _ w).put 1 (.int .i64 4)).put 2 (.int .i64 (-1))) rfl
    ·have ghst3:(st == (3:Int))=false:=by simpa using hst3
     have hE:backE ⟨call,st,since,cen,e,name,ver,ans⟩ e=8:=by simp [backE,hbe,hst3]
     have hS:backS ⟨call,st,since,cen,e,name,ver,ans⟩ e=⟨call,st,since,cen,e,name,ver,ans⟩:=by unfold backS;rw [hE];simp
     rw [hE,hS]
     clear hE hS
     go_enter Tryz.func42,Tryz.ntmps42
     go_wp2_with (first
      | (go_at_call 117;refine HT.out.mono ?_;rintro e1 w1 ⟨rfl,rfl⟩)
      | (go_at_call 120;refine HV.out.mono ?_;rintro e1 w1 ⟨rfl,rfl⟩)
      | (go_at_call 135;refine HC.out.mono ?_;rintro e1 w1 ⟨rfl,rfl⟩)
      | (go_at_call 121;refine HP.out.mono ?_;rintro e1 w1 ⟨rfl,rfl⟩)
      | (go_at_call 72;refine HO.out.mono ?_;rintro e1 w1 ⟨rfl,rfl⟩))
     go_ret
     exact LPost.self H.out
   ·have gh1:(e == ep)=false:=by simpa using h1
    rw [if_neg h1] at HO
    have hE:backE ⟨call,st,since,cen,ep,name,ver,ans⟩ e=9:=by simp [backE,hbe,h1]
    have hS:backS ⟨call,st,since,cen,ep,name,ver,ans⟩ e=⟨call,st,since,cen,ep,name,ver,ans⟩:=by unfold backS;rw [hE];simp
    rw [hE,hS]
    clear hE hS
    go_enter Tryz.func42,Tryz.ntmps42
    go_wp2_with (first
     | (go_at_call 117;refine HT.out.mono ?_;rintro e1 w1 ⟨rfl,rfl⟩)
     | (go_at_call 120;refine HV.out.mono ?_;rintro e1 w1 ⟨rfl,rfl⟩)
     | (go_at_call 135;refine HC.out.mono ?_;rintro e1 w1 ⟨rfl,rfl⟩)
     | (go_at_call 121;refine HP.out.mono ?_;rintro e1 w1 ⟨rfl,rfl⟩)
     | (go_at_call 72;refine HO.out.mono ?_;rintro e1 w1 ⟨rfl,rfl⟩))
    go_ret
    exact LPost.self H.out
set_option maxHeartbeats 4000000 in
theorem close_any (e:Int):Calls Tryz.prog 43 #[.pointer (some ⟨lb,0,none⟩),.int .i64 e] w (LPost w lb r (closeS s e) (.int .i64 (closeE s e))):=by
 obtain ⟨c0,c1,c2,c3,c4,c5,c6,c7⟩:=h.cs
 have f0:=h.top.free 0
 have f1:=h.top.free 1
 have f2:=h.top.free 2
 have f3:=h.top.free 3
 have f4:=h.top.free 4
 have f5:=h.top.free 5
 have f6:=h.top.free 6
 have f7:=h.top.free 7
 have hlt:=h.top.lt
 have H:=hid h
 have HO:=hid (checkOwner_any w lb r A c s h e)
 obtain ⟨call,st,since,cen,ep,name,ver,ans⟩:=s
 simp only at c0 c1 c2 c3 c4 c5 c6 c7
 clear h
 simp only at HO
 obtain ⟨be,hbe⟩:∃ bb,(vN e 1)=bb:=⟨_,rfl⟩
 cases be with
 | false =>
   rw [hbe] at HO
   rw [if_neg (by decide)] at HO
   have hE:closeE ⟨call,st,since,cen,ep,name,ver,ans⟩ e=1:=by simp [closeE,hbe]
   have hS:closeS ⟨call,st,since,cen,ep,name,ver,ans⟩ e=⟨call,st,since,cen,ep,name,ver,ans⟩:=by unfold closeS;rw [hE];simp
   rw [hE,hS]
   clear hE hS
   go_enter Tryz.func43,Tryz.ntmps43
   go_wp2_with (first
    | (go_at_call 117;refine HT.out.mono ?_;rintro e1 w1 ⟨rfl,rfl⟩)
    | (go_at_call 120;refine HV.out.mono ?_;rintro e1 w1 ⟨rfl,rfl⟩)
    | (go_at_call 135;refine HC.out.mono ?_;rintro e1 w1 ⟨rfl,rfl⟩)
    | (go_at_call 121;refine HP.out.mono ?_;rintro e1 w1 ⟨rfl,rfl⟩)
    | (go_at_call 72;refine HO.out.mono ?_;rintro e1 w1 ⟨rfl,rfl⟩))
   go_ret
   exact LPost.self H.out
 | true =>
   rw [hbe] at HO
   rw [if_pos rfl] at HO
   by_cases h1:e=ep
   ·subst h1
    rw [if_pos rfl] at HO
    by_cases hst5:st=5
    ·have ghst5:(st == (5:Int))=true:=by simpa using hst5
     have hE:closeE ⟨call,st,since,cen,e,name,ver,ans⟩ e=8:=by simp [closeE,hbe,hst5]
     have hS:closeS ⟨call,st,since,cen,e,name,ver,ans⟩ e=⟨call,st,since,cen,e,name,ver,ans⟩:=by unfold closeS;rw [hE];simp [hst5]
     rw [hE,hS]
     clear hE hS
     go_enter Tryz.func43,Tryz.ntmps43
     go_wp2_with (first
      | (go_at_call 117;refine HT.out.mono ?_;rintro e1 w1 ⟨rfl,rfl⟩)
      | (go_at_call 120;refine HV.out.mono ?_;rintro e1 w1 ⟨rfl,rfl⟩)
      | (go_at_call 135;refine HC.out.mono ?_;rintro e1 w1 ⟨rfl,rfl⟩)
      | (go_at_call 121;refine HP.out.mono ?_;rintro e1 w1 ⟨rfl,rfl⟩)
      | (go_at_call 72;refine HO.out.mono ?_;rintro e1 w1 ⟨rfl,rfl⟩))
     go_ret
     exact LPost.self H.out
    ·have ghst5:(st == (5:Int))=false:=by simpa using hst5
     have hE:closeE ⟨call,st,since,cen,e,name,ver,ans⟩ e=0:=by simp [closeE,hbe,hst5]
     have hS:closeS ⟨call,st,since,cen,e,name,ver,ans⟩ e=⟨call,5,-1,cen,e,name,ver,ans⟩:=by unfold closeS;rw [hE];simp
     rw [hE,hS]
     clear hE hS
     go_enter Tryz.func43,Tryz.ntmps43
     go_wp2_with (first
      | (go_at_call 117;refine HT.out.mono ?_;rintro e1 w1 ⟨rfl,rfl⟩)
      | (go_at_call 120;refine HV.out.mono ?_;rintro e1 w1 ⟨rfl,rfl⟩)
      | (go_at_call 135;refine HC.out.mono ?_;rintro e1 w1 ⟨rfl,rfl⟩)
      | (go_at_call 121;refine HP.out.mono ?_;rintro e1 w1 ⟨rfl,rfl⟩)
      | (go_at_call 72;refine HO.out.mono ?_;rintro e1 w1 ⟨rfl,rfl⟩))
     go_ret
     exact LPost.put H.out ((H.out.top.put 1 (.int .i64 5)).put 2 (.int .i64 (-1))) (((Keep.refl _ w).put 1 (.int .i64 5)).put 2 (.int .i64 (-1))) rfl
   ·have gh1:(e == ep)=false:=by simpa using h1
    rw [if_neg h1] at HO
    have hE:closeE ⟨call,st,since,cen,ep,name,ver,ans⟩ e=9:=by simp [closeE,hbe,h1]
    have hS:closeS ⟨call,st,since,cen,ep,name,ver,ans⟩ e=⟨call,st,since,cen,ep,name,ver,ans⟩:=by unfold closeS;rw [hE];simp
    rw [hE,hS]
    clear hE hS
    go_enter Tryz.func43,Tryz.ntmps43
    go_wp2_with (first
     | (go_at_call 117;refine HT.out.mono ?_;rintro e1 w1 ⟨rfl,rfl⟩)
     | (go_at_call 120;refine HV.out.mono ?_;rintro e1 w1 ⟨rfl,rfl⟩)
     | (go_at_call 135;refine HC.out.mono ?_;rintro e1 w1 ⟨rfl,rfl⟩)
     | (go_at_call 121;refine HP.out.mono ?_;rintro e1 w1 ⟨rfl,rfl⟩)
     | (go_at_call 72;refine HO.out.mono ?_;rintro e1 w1 ⟨rfl,rfl⟩))
    go_ret
    exact LPost.self H.out
end
section
variable {w w':World} {S:Nat→Prop} {lb:Nat} {r:Option Nat} {A:Option Addr} {c:Nat} {s s':CL}
theorem LineAt.push {w1 w2:World} (h:LineAt w lb r A c s) (hk:Same w w1) {A':Option Addr} {c' k:Nat} {ys:List Value} {an:List Int} (hys:ys=icells an) (hkn:k=an.length)
 (ho:Own w2 0 3 1 (.slice A' k c') k ys) (hg:w1.grownBy w2 (Value.slice A s.ans.length c).ownBlock) (hwh:A'.map (·.block)=(Value.slice A s.ans.length c).ownBlock∨A'.map (·.block)=some w1.heap.size) :
 Blk w2 lb 151 (s.cells A c).toArray∧Keep (fun i=>some i=r) w w2∧(∀ g,A'.map (·.block)=some g→g≠lb∧(r=some g∨w.heap.size≤g)):=by
 subst hys hkn
 have hob:=h.ownBlock
 rw [hob] at hg hwh
 have hwb:=h.top.lt
 have h5:=hk.size
 have hk7:Keep (fun i=>some i=r) w w2:=(hk.wide (fun _ _ f=>f.elim)).grown hg (fun g e _=>e.symm)
 refine ⟨h.top.keep hk7 (fun e=>h.ne lb e.symm rfl),hk7,fun g e=>?_⟩
 rcases hwh with h1 | h1
 ·rw [e] at h1
  exact ⟨h.ne g h1.symm,.inl h1.symm⟩
 ·rw [e] at h1
  injection h1 with h1
  exact ⟨by omega,.inr (by omega)⟩
end
def CopyPost (w:World) (l:List Int) (e:Ending) (w':World):Prop :=
 ∃ B d,e=.returned (.slice B l.length d)∧Sl w' (· < w.heap.size) 1 B l.length (icells l)∧Same w w'
theorem icells_len (l:List Int):(icells l).length=l.length:=by simp [icells]
theorem icells_one (l:List Int):∀ u∈icells l,u.oneCell'=true:=by
 intro u hu
 simp only [icells,List.mem_map] at hu
 obtain ⟨_,_,rfl⟩:=hu
 rfl
theorem newRef_any (w:World) (n t:Int) (hn:vN n 1=true) (ht:vN t 0=true):Calls Tryz.prog 102 #[.int .i64 n,.int .i64 t] w (fun e w'=>e=.returned (.tuple #[.agg ((CL.mk n 1 t (-1) 0 ⟨#[]⟩ 0 []).cells none 0).toArray,.int .i64 0])∧Same w w'):=by
 have HT:=hid number_any
 go_enter Tryz.func102,Tryz.ntmps102
 go_wp2_with (go_at_call 129;refine (HT.out _ _ _).mono ?_;rintro e1 w1 ⟨rfl,rfl⟩;first | rw [hn] | rw [ht])
 refine bodyPost_ret (v:=.tuple #[.agg ((CL.mk n 1 t (-1) 0 ⟨#[]⟩ 0 []).cells none 0).toArray,.int .i64 0]) (by simp [results,Tryz.results102,go_sem,CL.cells]) rfl ⟨rfl,(Keep.refl _ w).alloc _⟩
theorem new_any (w:World) (n t:Int) (hn:vN n 1=true) (ht:vN t 0=true):Calls Tryz.prog 67 #[.int .i64 n,.int .i64 t] w (fun e w'=>e=.returned (.tuple #[.pointer (some ⟨w.heap.size,0,none⟩),.int .i64 0])∧LineAt w' w.heap.size none none 0 ⟨n,1,t,-1,0,⟨#[]⟩,0,[]⟩∧Same w w'):=by
 have HT:=hid validTick_any
 have HC:=hid validCall_any
 go_enter Tryz.func67,Tryz.ntmps67
 go_wp2_with (first
  | (go_at_call 117;refine (HT.out _ _).mono ?_;rintro e1 w1 ⟨rfl,rfl⟩;rw [ht])
  | (go_at_call 116;refine (HC.out _ _).mono ?_;rintro e1 w1 ⟨rfl,rfl⟩;rw [hn]))
 go_ret2
 exact ⟨rfl,⟨Blk.made w 151 _,Own.nil _ 0 3 1,rfl,fun g e=>by cases e⟩,(Keep.refl _ w).alloc _⟩
section
variable (w:World) (lb:Nat) (r:Option Nat) (A:Option Addr) (c:Nat) (s:CL) (h:LineAt w lb r A c s)
include h
theorem answers_any (_h2:LineAt w lb r A c s) (hl:s.ans.length≤1000):Calls Tryz.prog 45 #[.pointer (some ⟨lb,0,none⟩)] w (CopyPost w s.ans):=by
 obtain ⟨_,_,_,_,_,_,_,c7⟩:=h.cs
 have hlt:=h.top.lt
 have HS:=hid (h.sl.src (Keep.refl (fun _=>False) w))
 clear h
 generalize s.ans=l at *
 have HN:=hid (icells_len l)
 generalize hn:l.length=n at *
 go_enter Tryz.func45,Tryz.ntmps45
 go_wp2_with (
  at_builtin
  refine EIn.law2 (.const (.slice none 0 0)) (.tmp 6) (.slice none 0 0) A n c rfl rfl rfl rfl w.heap.size 0 [] (icells l) n _ (Nat.zero_add n) rfl (Own.nil _ _ _ _) (by rw [HN.out];omega) HS.out (icells_one _) (by omega) (by unfold maxLen;omega) (Nat.le_refl _) ?_
  intro A' c' w2 ho hg hw
  have HO:=hid ho
  have HK:=hid ((Keep.refl (fun _=>False) w).app (Own.nil w w.heap.size 3 1) hg (fun g h1 h2=>by omega))
  clear ho hg hw)
 go_ret
 rw [←hn] at *
 exact ⟨A',c',rfl,HO.out.sl (fun g hg=>by omega),HK.out⟩
set_option maxHeartbeats 4000000 in
set_option maxRecDepth 100000 in
omit h in
theorem say_any (h:LineAt w lb r A c s) (a:Int):Calls Tryz.prog 106 #[.pointer (some ⟨lb,0,none⟩),.int .i64 a] w (LPost w lb r (sayS s a) (.int .i64 (sayE s a))):=by
 obtain ⟨c0,c1,c2,c3,c4,c5,c6,c7⟩:=h.cs
 have f0:=h.top.free 0
 have f1:=h.top.free 1
 have f2:=h.top.free 2
 have f3:=h.top.free 3
 have f4:=h.top.free 4
 have f5:=h.top.free 5
 have f6:=h.top.free 6
 have f7:=h.top.free 7
 have hlt:=h.top.lt
 have H:=hid h
 obtain ⟨call,st,since,cen,ep,name,ver,ans⟩:=s
 simp only at c0 c1 c2 c3 c4 c5 c6 c7
 clear h
 by_cases h0:a<0
 ·have hE:sayE ⟨call,st,since,cen,ep,name,ver,ans⟩ a=1:=by simp [sayE,h0]
  have hS:sayS ⟨call,st,since,cen,ep,name,ver,ans⟩ a=⟨call,st,since,cen,ep,name,ver,ans⟩:=by unfold sayS;rw [hE];simp
  rw [hE,hS]
  clear hE hS
  go_enter Tryz.func106,Tryz.ntmps106
  go_wp2_with fail
  go_ret
  exact LPost.self H.out
 ·by_cases h15:15<a
  ·have hE:sayE ⟨call,st,since,cen,ep,name,ver,ans⟩ a=1:=by simp [sayE,h0,h15]
   have hS:sayS ⟨call,st,since,cen,ep,name,ver,ans⟩ a=⟨call,st,since,cen,ep,name,ver,ans⟩:=by unfold sayS;rw [hE];simp
   rw [hE,hS]
   clear hE hS
   go_enter Tryz.func106,Tryz.ntmps106
   go_wp2_with fail
   go_ret
   exact LPost.self H.out
  ·by_cases hst:st=2
   ·subst hst
    obtain ⟨bn,hbn⟩:∃ bb,(name.toList == [])=bb:=⟨_,rfl⟩
    cases bn with
    | true =>
      have hE:sayE ⟨call,2,since,cen,ep,name,ver,ans⟩ a=8:=by simp [sayE,h0,h15,hbn]
      have hS:sayS ⟨call,2,since,cen,ep,name,ver,ans⟩ a=⟨call,2,since,cen,ep,name,ver,ans⟩:=by unfold sayS;rw [hE];simp
      rw [hE,hS]
      clear hE hS
      go_enter Tryz.func106,Tryz.ntmps106
      go_wp2_with fail
      go_ret
      exact LPost.self H.out
    | false =>
      by_cases h200:200≤ans.length
      ·have h200i:(200:Int)≤ans.length:=by omega
       have hE:sayE ⟨call,2,since,cen,ep,name,ver,ans⟩ a=3:=by simp [sayE,h0,h15,hbn,h200]
       have hS:sayS ⟨call,2,since,cen,ep,name,ver,ans⟩ a=⟨call,2,since,cen,ep,name,ver,ans⟩:=by unfold sayS;rw [hE];simp
       rw [hE,hS]
       clear hE hS
       go_enter Tryz.func106,Tryz.ntmps106
       go_wp2_with fail
       go_ret
       exact LPost.self H.out
      ·have hE:sayE ⟨call,2,since,cen,ep,name,ver,ans⟩ a=0:=by simp [sayE,h0,h15,hbn,h200]
       have hS:sayS ⟨call,2,since,cen,ep,name,ver,ans⟩ a=⟨call,2,since,cen,ep,name,ver,ans++[a]⟩:=by unfold sayS;rw [hE];simp
       rw [hE,hS]
       clear hE hS
       have hk:Same w (w.alloc (.cells #[.int .i64 a] 3)):=(Keep.refl _ w).alloc _
       have HOW:=hid (World.ownsRow.alloc H.out.row (.cells #[.int .i64 a] 3))
       have hn0:(ans.length:Int)<200:=by omega
       have HAL:=hid (icells_len ans)
       have HT:=hid (show icells ans++[.int .i64 a]=icells (ans++[a]) by simp [icells])
       clear f0 f1 f2 f3 f4 f5 f6 f7
       go_enter Tryz.func106,Tryz.ntmps106
       go_wp2_with (
        at_builtin
        refine EIn.law2 (.tmp 40) (.tmp 42) (.slice A ans.length c) (some ⟨w.heap.size,0,none⟩) 1 1 rfl rfl rfl rfl 0 ans.length (icells ans) [.int .i64 a] (ans.length+1) _ rfl rfl HOW.out rfl (fun _=>⟨_,rfl,src_new rfl⟩) (by intro u hu;simp at hu;subst hu;rfl) (by omega) (by unfold maxLen;omega) (Nat.zero_le _) ?_
        intro A' c' w2 ho hg hw
        obtain ⟨hp1,hp2,hp3⟩:=H.out.push (an:=ans++[a]) hk HT.out (by simp) ho hg hw
        have d1:=hp1.at_ 1
        have d7:=hp1.at_ 7
        have e1:=hp1.free 1
        have e7:=hp1.free 7
        have hl2:=hp1.lt
        simp only [CL.cells] at d1 d7
        have HP1:=hid hp1
        have HP2:=hid hp2
        have HP3:=hid hp3
        have HOO:=hid ho
        clear ho hg hw hp1 hp2 hp3)
       go_ret
       have hk2:=((Keep.refl (· = lb) w2).put 7 (.slice A' (ans.length+1) c')).put 1 (.int .i64 2)
       have hlen:(ans++[a]).length=ans.length+1:=by simp
       refine ⟨A'.map (·.block),A',c',rfl,⟨?_,?_,rfl,fun g e=>(HP3.out g e).1⟩,(HP2.out.wide (fun _ _ e=>.inr e)).trans hk2 (fun _ _ e=>.inl e),fun g e=>(HP3.out g e).2⟩
       ·have:=(HP1.out.put 7 (.slice A' (ans.length+1) c')).put 1 (.int .i64 2)
        simpa [CL.cells] using this
       ·simp only
        rw [hlen,←HT.out]
        exact HOO.out.keepB hk2 (fun g e=>(HP3.out g (by rw [←e];cases A' <;> rfl)).1)
   ·have g2:(st == (2:Int))=false:=by simpa using hst
    by_cases hst4:st=4
    ·subst hst4
     obtain ⟨bn,hbn⟩:∃ bb,(name.toList == [])=bb:=⟨_,rfl⟩
     cases bn with
     | true =>
       have hE:sayE ⟨call,4,since,cen,ep,name,ver,ans⟩ a=8:=by simp [sayE,h0,h15,hbn]
       have hS:sayS ⟨call,4,since,cen,ep,name,ver,ans⟩ a=⟨call,4,since,cen,ep,name,ver,ans⟩:=by unfold sayS;rw [hE];simp
       rw [hE,hS]
       clear hE hS
       go_enter Tryz.func106,Tryz.ntmps106
       go_wp2_with fail
       go_ret
       exact LPost.self H.out
     | false =>
       by_cases h200:200≤ans.length
       ·have h200i:(200:Int)≤ans.length:=by omega
        have hE:sayE ⟨call,4,since,cen,ep,name,ver,ans⟩ a=3:=by simp [sayE,h0,h15,hbn,h200]
        have hS:sayS ⟨call,4,since,cen,ep,name,ver,ans⟩ a=⟨call,4,since,cen,ep,name,ver,ans⟩:=by unfold sayS;rw [hE];simp
        rw [hE,hS]
        clear hE hS
        go_enter Tryz.func106,Tryz.ntmps106
        go_wp2_with fail
        go_ret
        exact LPost.self H.out
       ·have hE:sayE ⟨call,4,since,cen,ep,name,ver,ans⟩ a=0:=by simp [sayE,h0,h15,hbn,h200]
        have hS:sayS ⟨call,4,since,cen,ep,name,ver,ans⟩ a=⟨call,2,since,cen,ep,name,ver,ans++[a]⟩:=by unfold sayS;rw [hE];simp
        rw [hE,hS]
        clear hE hS
        have hk:Same w (w.alloc (.cells #[.int .i64 a] 3)):=(Keep.refl _ w).alloc _
        have HOW:=hid (World.ownsRow.alloc H.out.row (.cells #[.int .i64 a] 3))
        have hn0:(ans.length:Int)<200:=by omega
        have HAL:=hid (icells_len ans)
        have HT:=hid (show icells ans++[.int .i64 a]=icells (ans++[a]) by simp [icells])
        clear f0 f1 f2 f3 f4 f5 f6 f7
        go_enter Tryz.func106,Tryz.ntmps106
        go_wp2_with (
         at_builtin
         refine EIn.law2 (.tmp 40) (.tmp 42) (.slice A ans.length c) (some ⟨w.heap.size,0,none⟩) 1 1 rfl rfl rfl rfl 0 ans.length (icells ans) [.int .i64 a] (ans.length+1) _ rfl rfl HOW.out rfl (fun _=>⟨_,rfl,src_new rfl⟩) (by intro u hu;simp at hu;subst hu;rfl) (by omega) (by unfold maxLen;omega) (Nat.zero_le _) ?_
         intro A' c' w2 ho hg hw
         obtain ⟨hp1,hp2,hp3⟩:=H.out.push (an:=ans++[a]) hk HT.out (by simp) ho hg hw
         have d1:=hp1.at_ 1
         have d7:=hp1.at_ 7
         have e1:=hp1.free 1
         have e7:=hp1.free 7
         have hl2:=hp1.lt
         simp only [CL.cells] at d1 d7
         have HP1:=hid hp1
         have HP2:=hid hp2
         have HP3:=hid hp3
         have HOO:=hid ho
         clear ho hg hw hp1 hp2 hp3)
        go_ret
        have hk2:=((Keep.refl (· = lb) w2).put 7 (.slice A' (ans.length+1) c')).put 1 (.int .i64 2)
        have hlen:(ans++[a]).length=ans.length+1:=by simp
        refine ⟨A'.map (·.block),A',c',rfl,⟨?_,?_,rfl,fun g e=>(HP3.out g e).1⟩,(HP2.out.wide (fun _ _ e=>.inr e)).trans hk2 (fun _ _ e=>.inl e),fun g e=>(HP3.out g e).2⟩
        ·have:=(HP1.out.put 7 (.slice A' (ans.length+1) c')).put 1 (.int .i64 2)
         simpa [CL.cells] using this
        ·simp only
         rw [hlen,←HT.out]
         exact HOO.out.keepB hk2 (fun g e=>(HP3.out g (by rw [←e];cases A' <;> rfl)).1)
    ·have g4:(st == (4:Int))=false:=by simpa using hst4
     have hE:sayE ⟨call,st,since,cen,ep,name,ver,ans⟩ a=8:=by simp [sayE,h0,h15,hst,hst4]
     have hS:sayS ⟨call,st,since,cen,ep,name,ver,ans⟩ a=⟨call,st,since,cen,ep,name,ver,ans⟩:=by unfold sayS;rw [hE];simp
     rw [hE,hS]
     clear hE hS
     go_enter Tryz.func106,Tryz.ntmps106
     go_wp2_with fail
     go_ret
     exact LPost.self H.out
end
def RefPost (w:World) (Av:Nat→Prop) (s:CL) (er:Int) (e:Ending) (w':World):Prop :=
 ∃ A c,e=.returned (.tuple #[.agg (s.cells A c).toArray,.int .i64 er])∧Sl w' Av 1 A s.ans.length (icells s.ans)∧Same w w'
section
variable (w:World) (Av:Nat→Prop) (A:Option Addr) (c:Nat) (s:CL) (h:Sl w Av 1 A s.ans.length (icells s.ans))
include h
set_option maxHeartbeats 1000000 in
theorem rbind_any (x e t:Int):Calls Tryz.prog 130 #[.agg (s.cells A c).toArray,.int .i64 x,.int .i64 e,.int .i64 t] w (RefPost w Av (assignS s x e t) (assignE s x e t)):=by
 have HT:=hid number_any
 obtain ⟨call,st,since,cen,ep,name,ver,ans⟩:=s
 have H:=hid h
 clear h
 simp only [CL.cells]
 by_cases hx0:x<0
 ·have hbx:vC x=false:=by simp only [vC,Bool.and_eq_false_iff,decide_eq_false_iff_not];omega
  have hE:assignE ⟨call,st,since,cen,ep,name,ver,ans⟩ x e t=1:=by simp [assignE,hbx]
  have hS:assignS ⟨call,st,since,cen,ep,name,ver,ans⟩ x e t=⟨call,st,since,cen,ep,name,ver,ans⟩:=by unfold assignS;rw [hE];simp
  rw [hE,hS]
  clear hE hS
  go_enter Tryz.func130,Tryz.ntmps130
  go_wp2_with (go_at_call 129;refine (HT.out _ _ _).mono ?_;rintro e1 w1 ⟨rfl,rfl⟩;first | rw [hbe] | rw [hbt])
  refine bodyPost_ret (v:=.tuple #[.agg #[.int .i64 (call),.int .i64 (st),.int .i64 (since),.int .i64 (cen),.int .i64 (ep),.string (name),.int .i64 (ver),.slice A ans.length c],.int .i64 1]) (by simp [results,Tryz.results130,go_sem] <;> omega) rfl ⟨A,c,rfl,H.out.same (((Keep.refl _ w).alloc _).alloc _),((Keep.refl _ w).alloc _).alloc _⟩
 ·by_cases hx9:9≤x
  ·have hbx:vC x=false:=by simp only [vC,Bool.and_eq_false_iff,decide_eq_false_iff_not];omega
   have hE:assignE ⟨call,st,since,cen,ep,name,ver,ans⟩ x e t=1:=by simp [assignE,hbx]
   have hS:assignS ⟨call,st,since,cen,ep,name,ver,ans⟩ x e t=⟨call,st,since,cen,ep,name,ver,ans⟩:=by unfold assignS;rw [hE];simp
   rw [hE,hS]
   clear hE hS
   go_enter Tryz.func130,Tryz.ntmps130
   go_wp2_with (go_at_call 129;refine (HT.out _ _ _).mono ?_;rintro e1 w1 ⟨rfl,rfl⟩;first | rw [hbe] | rw [hbt])
   refine bodyPost_ret (v:=.tuple #[.agg #[.int .i64 (call),.int .i64 (st),.int .i64 (since),.int .i64 (cen),.int .i64 (ep),.string (name),.int .i64 (ver),.slice A ans.length c],.int .i64 1]) (by simp [results,Tryz.results130,go_sem] <;> omega) rfl ⟨A,c,rfl,H.out.same (((Keep.refl _ w).alloc _).alloc _),((Keep.refl _ w).alloc _).alloc _⟩
  ·have hbx:vC x=true:=by simp only [vC,Bool.and_eq_true,decide_eq_true_eq];omega
   obtain ⟨be,hbe⟩:∃ bb,(vN e 1)=bb:=⟨_,rfl⟩
   cases be with
   | false =>
     have hE:assignE ⟨call,st,since,cen,ep,name,ver,ans⟩ x e t=1:=by simp [assignE,hbx,hbe]
     have hS:assignS ⟨call,st,since,cen,ep,name,ver,ans⟩ x e t=⟨call,st,since,cen,ep,name,ver,ans⟩:=by unfold assignS;rw [hE];simp
     rw [hE,hS]
     clear hE hS
     go_enter Tryz.func130,Tryz.ntmps130
     go_wp2_with (go_at_call 129;refine (HT.out _ _ _).mono ?_;rintro e1 w1 ⟨rfl,rfl⟩;first | rw [hbe] | rw [hbt])
     refine bodyPost_ret (v:=.tuple #[.agg #[.int .i64 (call),.int .i64 (st),.int .i64 (since),.int .i64 (cen),.int .i64 (ep),.string (name),.int .i64 (ver),.slice A ans.length c],.int .i64 1]) (by simp [results,Tryz.results130,go_sem] <;> omega) rfl ⟨A,c,rfl,H.out.same (((Keep.refl _ w).alloc _).alloc _),((Keep.refl _ w).alloc _).alloc _⟩
   | true =>
     obtain ⟨bt,hbt⟩:∃ bb,(vN t 0)=bb:=⟨_,rfl⟩
     cases bt with
     | false =>
       have hE:assignE ⟨call,st,since,cen,ep,name,ver,ans⟩ x e t=1:=by simp [assignE,hbx,hbe,hbt]
       have hS:assignS ⟨call,st,since,cen,ep,name,ver,ans⟩ x e t=⟨call,st,since,cen,ep,name,ver,ans⟩:=by unfold assignS;rw [hE];simp
       rw [hE,hS]
       clear hE hS
       go_enter Tryz.func130,Tryz.ntmps130
       go_wp2_with (go_at_call 129;refine (HT.out _ _ _).mono ?_;rintro e1 w1 ⟨rfl,rfl⟩;first | rw [hbe] | rw [hbt])
       refine bodyPost_ret (v:=.tuple #[.agg #[.int .i64 (call),.int .i64 (st),.int .i64 (since),.int .i64 (cen),.int .i64 (ep),.string (name),.int .i64 (ver),.slice A ans.length c],.int .i64 1]) (by simp [results,Tryz.results130,go_sem] <;> omega) rfl ⟨A,c,rfl,H.out.same (((Keep.refl _ w).alloc _).alloc _),((Keep.refl _ w).alloc _).alloc _⟩
     | true =>
       by_cases h1:e≤ep
       ·have hE:assignE ⟨call,st,since,cen,ep,name,ver,ans⟩ x e t=9:=by simp [assignE,hbx,hbe,hbt,h1]
        have hS:assignS ⟨call,st,since,cen,ep,name,ver,ans⟩ x e t=⟨call,st,since,cen,ep,name,ver,ans⟩:=by unfold assignS;rw [hE];simp
        rw [hE,hS]
        clear hE hS
        go_enter Tryz.func130,Tryz.ntmps130
        go_wp2_with (go_at_call 129;refine (HT.out _ _ _).mono ?_;rintro e1 w1 ⟨rfl,rfl⟩;first | rw [hbe] | rw [hbt])
        refine bodyPost_ret (v:=.tuple #[.agg #[.int .i64 (call),.int .i64 (st),.int .i64 (since),.int .i64 (cen),.int .i64 (ep),.string (name),.int .i64 (ver),.slice A ans.length c],.int .i64 9]) (by simp [results,Tryz.results130,go_sem] <;> omega) rfl ⟨A,c,rfl,H.out.same (((Keep.refl _ w).alloc _).alloc _),((Keep.refl _ w).alloc _).alloc _⟩
       ·by_cases hst5:st=5
        ·have ghst5:(st == (5:Int))=true:=by simpa using hst5
         have hE:assignE ⟨call,st,since,cen,ep,name,ver,ans⟩ x e t=8:=by simp [assignE,hbx,hbe,hbt,h1,hst5]
         have hS:assignS ⟨call,st,since,cen,ep,name,ver,ans⟩ x e t=⟨call,st,since,cen,ep,name,ver,ans⟩:=by unfold assignS;rw [hE];simp [hst5]
         rw [hE,hS]
         clear hE hS
         go_enter Tryz.func130,Tryz.ntmps130
         go_wp2_with (go_at_call 129;refine (HT.out _ _ _).mono ?_;rintro e1 w1 ⟨rfl,rfl⟩;first | rw [hbe] | rw [hbt])
         refine bodyPost_ret (v:=.tuple #[.agg #[.int .i64 (call),.int .i64 (st),.int .i64 (since),.int .i64 (cen),.int .i64 (ep),.string (name),.int .i64 (ver),.slice A ans.length c],.int .i64 8]) (by simp [results,Tryz.results130,go_sem] <;> omega) rfl ⟨A,c,rfl,H.out.same (((Keep.refl _ w).alloc _).alloc _),((Keep.refl _ w).alloc _).alloc _⟩
        ·have ghst5:(st == (5:Int))=false:=by simpa using hst5
         by_cases hst2:st=2
         ·have ghst2:(st == (2:Int))=true:=by simpa using hst2
          have hE:assignE ⟨call,st,since,cen,ep,name,ver,ans⟩ x e t=0:=by simp [assignE,hbx,hbe,hbt,h1,hst2]
          have hS:assignS ⟨call,st,since,cen,ep,name,ver,ans⟩ x e t=⟨call,1,t,x,e,name,ver,ans⟩:=by unfold assignS;rw [hE];simp [hst2]
          rw [hE,hS]
          clear hE hS
          go_enter Tryz.func130,Tryz.ntmps130
          go_wp2_with (go_at_call 129;refine (HT.out _ _ _).mono ?_;rintro e1 w1 ⟨rfl,rfl⟩;first | rw [hbe] | rw [hbt])
          refine bodyPost_ret (v:=.tuple #[.agg #[.int .i64 (call),.int .i64 (1),.int .i64 (t),.int .i64 (x),.int .i64 (e),.string (name),.int .i64 (ver),.slice A ans.length c],.int .i64 0]) (by simp [results,Tryz.results130,go_sem] <;> omega) rfl ⟨A,c,rfl,H.out.same (((Keep.refl _ w).alloc _).alloc _),((Keep.refl _ w).alloc _).alloc _⟩
         ·have ghst2:(st == (2:Int))=false:=by simpa using hst2
          by_cases hst4:st=4
          ·have ghst4:(st == (4:Int))=true:=by simpa using hst4
           have hE:assignE ⟨call,st,since,cen,ep,name,ver,ans⟩ x e t=0:=by simp [assignE,hbx,hbe,hbt,h1,hst4]
           have hS:assignS ⟨call,st,since,cen,ep,name,ver,ans⟩ x e t=⟨call,3,t,x,e,name,ver,ans⟩:=by unfold assignS;rw [hE];simp [hst4]
           rw [hE,hS]
           clear hE hS
           go_enter Tryz.func130,Tryz.ntmps130
           go_wp2_with (go_at_call 129;refine (HT.out _ _ _).mono ?_;rintro e1 w1 ⟨rfl,rfl⟩;first | rw [hbe] | rw [hbt])
           refine bodyPost_ret (v:=.tuple #[.agg #[.int .i64 (call),.int .i64 (3),.int .i64 (t),.int .i64 (x),.int .i64 (e),.string (name),.int .i64 (ver),.slice A ans.length c],.int .i64 0]) (by simp [results,Tryz.results130,go_sem] <;> omega) rfl ⟨A,c,rfl,H.out.same (((Keep.refl _ w).alloc _).alloc _),((Keep.refl _ w).alloc _).alloc _⟩
          ·have ghst4:(st == (4:Int))=false:=by simpa using hst4
           have hE:assignE ⟨call,st,since,cen,ep,name,ver,ans⟩ x e t=0:=by simp [assignE,hbx,hbe,hbt,h1,hst5]
           have hS:assignS ⟨call,st,since,cen,ep,name,ver,ans⟩ x e t=⟨call,st,since,x,e,name,ver,ans⟩:=by unfold assignS;rw [hE];simp [hst2,hst4]
           rw [hE,hS]
           clear hE hS
           go_enter Tryz.func130,Tryz.ntmps130
           go_wp2_with (go_at_call 129;refine (HT.out _ _ _).mono ?_;rintro e1 w1 ⟨rfl,rfl⟩;first | rw [hbe] | rw [hbt])
           refine bodyPost_ret (v:=.tuple #[.agg #[.int .i64 (call),.int .i64 (st),.int .i64 (since),.int .i64 (x),.int .i64 (e),.string (name),.int .i64 (ver),.slice A ans.length c],.int .i64 0]) (by simp [results,Tryz.results130,go_sem] <;> omega) rfl ⟨A,c,rfl,H.out.same (((Keep.refl _ w).alloc _).alloc _),((Keep.refl _ w).alloc _).alloc _⟩
set_option maxHeartbeats 1000000 in
theorem ranswer_any (e:Int) (nm:ByteArray) (v:Int):Calls Tryz.prog 134 #[.agg (s.cells A c).toArray,.int .i64 e,.string nm,.int .i64 v] w (RefPost w Av (acceptS s e nm v) (acceptE s e nm v)):=by
 have HT:=hid number_any
 obtain ⟨call,st,since,cen,ep,name,ver,ans⟩:=s
 have H:=hid h
 clear h
 simp only [CL.cells]
 obtain ⟨be,hbe⟩:∃ bb,(vN e 1)=bb:=⟨_,rfl⟩
 cases be with
 | false =>
   have hE:acceptE ⟨call,st,since,cen,ep,name,ver,ans⟩ e nm v=1:=by simp [acceptE,hbe]
   have hS:acceptS ⟨call,st,since,cen,ep,name,ver,ans⟩ e nm v=⟨call,st,since,cen,ep,name,ver,ans⟩:=by unfold acceptS;rw [hE];simp
   rw [hE,hS]
   clear hE hS
   go_enter Tryz.func134,Tryz.ntmps134
   go_wp2_with (go_at_call 129;refine (HT.out _ _ _).mono ?_;rintro e1 w1 ⟨rfl,rfl⟩;first | rw [hbe] | rw [hbt])
   refine bodyPost_ret (v:=.tuple #[.agg #[.int .i64 (call),.int .i64 (st),.int .i64 (since),.int .i64 (cen),.int .i64 (ep),.string (name),.int .i64 (ver),.slice A ans.length c],.int .i64 1]) (by simp [results,Tryz.results134,go_sem] <;> omega) rfl ⟨A,c,rfl,H.out.same (((Keep.refl _ w).alloc _).alloc _),((Keep.refl _ w).alloc _).alloc _⟩
 | true =>
   by_cases hp1:(nm.size:Int)<1
   ·have hbp:vP nm.size v=false:=by simp only [vP,Bool.and_eq_false_iff,decide_eq_false_iff_not];omega
    have hE:acceptE ⟨call,st,since,cen,ep,name,ver,ans⟩ e nm v=1:=by simp [acceptE,hbe,hbp]
    have hS:acceptS ⟨call,st,since,cen,ep,name,ver,ans⟩ e nm v=⟨call,st,since,cen,ep,name,ver,ans⟩:=by unfold acceptS;rw [hE];simp
    rw [hE,hS]
    clear hE hS
    go_enter Tryz.func134,Tryz.ntmps134
    go_wp2_with (go_at_call 129;refine (HT.out _ _ _).mono ?_;rintro e1 w1 ⟨rfl,rfl⟩;first | rw [hbe] | rw [hbt])
    refine bodyPost_ret (v:=.tuple #[.agg #[.int .i64 (call),.int .i64 (st),.int .i64 (since),.int .i64 (cen),.int .i64 (ep),.string (name),.int .i64 (ver),.slice A ans.length c],.int .i64 1]) (by simp [results,Tryz.results134,go_sem] <;> omega) rfl ⟨A,c,rfl,H.out.same (((Keep.refl _ w).alloc _).alloc _),((Keep.refl _ w).alloc _).alloc _⟩
   ·by_cases hp2:40<(nm.size:Int)
    ·have hbp:vP nm.size v=false:=by simp only [vP,Bool.and_eq_false_iff,decide_eq_false_iff_not];omega
     have hE:acceptE ⟨call,st,since,cen,ep,name,ver,ans⟩ e nm v=1:=by simp [acceptE,hbe,hbp]
     have hS:acceptS ⟨call,st,since,cen,ep,name,ver,ans⟩ e nm v=⟨call,st,since,cen,ep,name,ver,ans⟩:=by unfold acceptS;rw [hE];simp
     rw [hE,hS]
     clear hE hS
     go_enter Tryz.func134,Tryz.ntmps134
     go_wp2_with (go_at_call 129;refine (HT.out _ _ _).mono ?_;rintro e1 w1 ⟨rfl,rfl⟩;first | rw [hbe] | rw [hbt])
     refine bodyPost_ret (v:=.tuple #[.agg #[.int .i64 (call),.int .i64 (st),.int .i64 (since),.int .i64 (cen),.int .i64 (ep),.string (name),.int .i64 (ver),.slice A ans.length c],.int .i64 1]) (by simp [results,Tryz.results134,go_sem] <;> omega) rfl ⟨A,c,rfl,H.out.same (((Keep.refl _ w).alloc _).alloc _),((Keep.refl _ w).alloc _).alloc _⟩
    ·by_cases hp3:v<1
     ·have hbp:vP nm.size v=false:=by simp only [vP,Bool.and_eq_false_iff,decide_eq_false_iff_not];omega
      have hE:acceptE ⟨call,st,since,cen,ep,name,ver,ans⟩ e nm v=1:=by simp [acceptE,hbe,hbp]
      have hS:acceptS ⟨call,st,since,cen,ep,name,ver,ans⟩ e nm v=⟨call,st,since,cen,ep,name,ver,ans⟩:=by unfold acceptS;rw [hE];simp
      rw [hE,hS]
      clear hE hS
      go_enter Tryz.func134,Tryz.ntmps134
      go_wp2_with (go_at_call 129;refine (HT.out _ _ _).mono ?_;rintro e1 w1 ⟨rfl,rfl⟩;first | rw [hbe] | rw [hbt])
      refine bodyPost_ret (v:=.tuple #[.agg #[.int .i64 (call),.int .i64 (st),.int .i64 (since),.int .i64 (cen),.int .i64 (ep),.string (name),.int .i64 (ver),.slice A ans.length c],.int .i64 1]) (by simp [results,Tryz.results134,go_sem] <;> omega) rfl ⟨A,c,rfl,H.out.same (((Keep.refl _ w).alloc _).alloc _),((Keep.refl _ w).alloc _).alloc _⟩
     ·by_cases hp4:1048576<v
      ·have hbp:vP nm.size v=false:=by simp only [vP,Bool.and_eq_false_iff,decide_eq_false_iff_not];omega
       have hE:acceptE ⟨call,st,since,cen,ep,name,ver,ans⟩ e nm v=1:=by simp [acceptE,hbe,hbp]
       have hS:acceptS ⟨call,st,since,cen,ep,name,ver,ans⟩ e nm v=⟨call,st,since,cen,ep,name,ver,ans⟩:=by unfold acceptS;rw [hE];simp
       rw [hE,hS]
       clear hE hS
       go_enter Tryz.func134,Tryz.ntmps134
       go_wp2_with (go_at_call 129;refine (HT.out _ _ _).mono ?_;rintro e1 w1 ⟨rfl,rfl⟩;first | rw [hbe] | rw [hbt])
       refine bodyPost_ret (v:=.tuple #[.agg #[.int .i64 (call),.int .i64 (st),.int .i64 (since),.int .i64 (cen),.int .i64 (ep),.string (name),.int .i64 (ver),.slice A ans.length c],.int .i64 1]) (by simp [results,Tryz.results134,go_sem] <;> omega) rfl ⟨A,c,rfl,H.out.same (((Keep.refl _ w).alloc _).alloc _),((Keep.refl _ w).alloc _).alloc _⟩
      ·have hbp:vP nm.size v=true:=by simp only [vP,Bool.and_eq_true,decide_eq_true_eq];omega
       by_cases h1:e=ep
       ·subst h1
        by_cases hst5:st=5
        ·have ghst5:(st == (5:Int))=true:=by simpa using hst5
         have hE:acceptE ⟨call,st,since,cen,e,name,ver,ans⟩ e nm v=8:=by simp [acceptE,hbe,hbp,hst5]
         have hS:acceptS ⟨call,st,since,cen,e,name,ver,ans⟩ e nm v=⟨call,st,since,cen,e,name,ver,ans⟩:=by unfold acceptS;rw [hE];simp [hst5]
         rw [hE,hS]
         clear hE hS
         go_enter Tryz.func134,Tryz.ntmps134
         go_wp2_with (go_at_call 129;refine (HT.out _ _ _).mono ?_;rintro e1 w1 ⟨rfl,rfl⟩;first | rw [hbe] | rw [hbt])
         refine bodyPost_ret (v:=.tuple #[.agg #[.int .i64 (call),.int .i64 (st),.int .i64 (since),.int .i64 (cen),.int .i64 (e),.string (name),.int .i64 (ver),.slice A ans.length c],.int .i64 8]) (by simp [results,Tryz.results134,go_sem] <;> omega) rfl ⟨A,c,rfl,H.out.same (((Keep.refl _ w).alloc _).alloc _),((Keep.refl _ w).alloc _).alloc _⟩
        ·have ghst5:(st == (5:Int))=false:=by simpa using hst5
         obtain ⟨bn,hbn⟩:∃ bb,(name.toList == [])=bb:=⟨_,rfl⟩
         cases bn with
         | false =>
           obtain ⟨bq,hbq⟩:∃ bb,(name.toList == nm.toList)=bb:=⟨_,rfl⟩
           cases bq with
           | false =>
             have hE:acceptE ⟨call,st,since,cen,e,name,ver,ans⟩ e nm v=10:=by simp [acceptE,hbe,hbp,hst5,hbn,hbq]
             have hS:acceptS ⟨call,st,since,cen,e,name,ver,ans⟩ e nm v=⟨call,st,since,cen,e,name,ver,ans⟩:=by unfold acceptS;rw [hE];simp
             rw [hE,hS]
             clear hE hS
             go_enter Tryz.func134,Tryz.ntmps134
             go_wp2_with (go_at_call 129;refine (HT.out _ _ _).mono ?_;rintro e1 w1 ⟨rfl,rfl⟩;first | rw [hbe] | rw [hbt])
             refine bodyPost_ret (v:=.tuple #[.agg #[.int .i64 (call),.int .i64 (st),.int .i64 (since),.int .i64 (cen),.int .i64 (e),.string (name),.int .i64 (ver),.slice A ans.length c],.int .i64 10]) (by simp [results,Tryz.results134,go_sem] <;> omega) rfl ⟨A,c,rfl,H.out.same (((Keep.refl _ w).alloc _).alloc _),((Keep.refl _ w).alloc _).alloc _⟩
           | true =>
             by_cases h2:ver=v
             ·subst h2
              by_cases hst1:st=1
              ·have ghst1:(st == (1:Int))=true:=by simpa using hst1
               have hE:acceptE ⟨call,st,since,cen,e,name,ver,ans⟩ e nm ver=0:=by simp [acceptE,hbe,hbp,hbn,hbq,hst1]
               have hS:acceptS ⟨call,st,since,cen,e,name,ver,ans⟩ e nm ver=⟨call,2,-1,cen,e,nm,ver,ans⟩:=by unfold acceptS;rw [hE];simp [hst1]
               rw [hE,hS]
               clear hE hS
               go_enter Tryz.func134,Tryz.ntmps134
               go_wp2_with (go_at_call 129;refine (HT.out _ _ _).mono ?_;rintro e1 w1 ⟨rfl,rfl⟩;first | rw [hbe] | rw [hbt])
               refine bodyPost_ret (v:=.tuple #[.agg #[.int .i64 (call),.int .i64 (2),.int .i64 (-1),.int .i64 (cen),.int .i64 (e),.string (nm),.int .i64 (ver),.slice A ans.length c],.int .i64 0]) (by simp [results,Tryz.results134,go_sem] <;> omega) rfl ⟨A,c,rfl,H.out.same (((Keep.refl _ w).alloc _).alloc _),((Keep.refl _ w).alloc _).alloc _⟩
              ·have ghst1:(st == (1:Int))=false:=by simpa using hst1
               have hE:acceptE ⟨call,st,since,cen,e,name,ver,ans⟩ e nm ver=0:=by simp [acceptE,hbe,hbp,hst5,hbn,hbq]
               have hS:acceptS ⟨call,st,since,cen,e,name,ver,ans⟩ e nm ver=⟨call,st,since,cen,e,nm,ver,ans⟩:=by unfold acceptS;rw [hE];simp [hst1]
               rw [hE,hS]
               clear hE hS
               go_enter Tryz.func134,Tryz.ntmps134
               go_wp2_with (go_at_call 129;refine (HT.out _ _ _).mono ?_;rintro e1 w1 ⟨rfl,rfl⟩;first | rw [hbe] | rw [hbt])
               refine bodyPost_ret (v:=.tuple #[.agg #[.int .i64 (call),.int .i64 (st),.int .i64 (since),.int .i64 (cen),.int .i64 (e),.string (nm),.int .i64 (ver),.slice A ans.length c],.int .i64 0]) (by simp [results,Tryz.results134,go_sem] <;> omega) rfl ⟨A,c,rfl,H.out.same (((Keep.refl _ w).alloc _).alloc _),((Keep.refl _ w).alloc _).alloc _⟩
             ·have gh2:(ver == v)=false:=by simpa using h2
              have hE:acceptE ⟨call,st,since,cen,e,name,ver,ans⟩ e nm v=10:=by simp [acceptE,hbe,hbp,hst5,hbn,hbq,h2]
              have hS:acceptS ⟨call,st,since,cen,e,name,ver,ans⟩ e nm v=⟨call,st,since,cen,e,name,ver,ans⟩:=by unfold acceptS;rw [hE];simp
              rw [hE,hS]
              clear hE hS
              go_enter Tryz.func134,Tryz.ntmps134
              go_wp2_with (go_at_call 129;refine (HT.out _ _ _).mono ?_;rintro e1 w1 ⟨rfl,rfl⟩;first | rw [hbe] | rw [hbt])
              refine bodyPost_ret (v:=.tuple #[.agg #[.int .i64 (call),.int .i64 (st),.int .i64 (since),.int .i64 (cen),.int .i64 (e),.string (name),.int .i64 (ver),.slice A ans.length c],.int .i64 10]) (by simp [results,Tryz.results134,go_sem] <;> omega) rfl ⟨A,c,rfl,H.out.same (((Keep.refl _ w).alloc _).alloc _),((Keep.refl _ w).alloc _).alloc _⟩
         | true =>
           by_cases hst1:st=1
           ·have ghst1:(st == (1:Int))=true:=by simpa using hst1
            have hE:acceptE ⟨call,st,since,cen,e,name,ver,ans⟩ e nm v=0:=by simp [acceptE,hbe,hbp,hbn,hst1]
            have hS:acceptS ⟨call,st,since,cen,e,name,ver,ans⟩ e nm v=⟨call,2,-1,cen,e,nm,v,ans⟩:=by unfold acceptS;rw [hE];simp [hst1]
            rw [hE,hS]
            clear hE hS
            go_enter Tryz.func134,Tryz.ntmps134
            go_wp2_with (go_at_call 129;refine (HT.out _ _ _).mono ?_;rintro e1 w1 ⟨rfl,rfl⟩;first | rw [hbe] | rw [hbt])
            refine bodyPost_ret (v:=.tuple #[.agg #[.int .i64 (call),.int .i64 (2),.int .i64 (-1),.int .i64 (cen),.int .i64 (e),.string (nm),.int .i64 (v),.slice A ans.length c],.int .i64 0]) (by simp [results,Tryz.results134,go_sem] <;> omega) rfl ⟨A,c,rfl,H.out.same (((Keep.refl _ w).alloc _).alloc _),((Keep.refl _ w).alloc _).alloc _⟩
           ·have ghst1:(st == (1:Int))=false:=by simpa using hst1
            have hE:acceptE ⟨call,st,since,cen,e,name,ver,ans⟩ e nm v=0:=by simp [acceptE,hbe,hbp,hst5,hbn]
            have hS:acceptS ⟨call,st,since,cen,e,name,ver,ans⟩ e nm v=⟨call,st,since,cen,e,nm,v,ans⟩:=by unfold acceptS;rw [hE];simp [hst1]
            rw [hE,hS]
            clear hE hS
            go_enter Tryz.func134,Tryz.ntmps134
            go_wp2_with (go_at_call 129;refine (HT.out _ _ _).mono ?_;rintro e1 w1 ⟨rfl,rfl⟩;first | rw [hbe] | rw [hbt])
            refine bodyPost_ret (v:=.tuple #[.agg #[.int .i64 (call),.int .i64 (st),.int .i64 (since),.int .i64 (cen),.int .i64 (e),.string (nm),.int .i64 (v),.slice A ans.length c],.int .i64 0]) (by simp [results,Tryz.results134,go_sem] <;> omega) rfl ⟨A,c,rfl,H.out.same (((Keep.refl _ w).alloc _).alloc _),((Keep.refl _ w).alloc _).alloc _⟩
       ·have gh1:(e == ep)=false:=by simpa using h1
        have hE:acceptE ⟨call,st,since,cen,ep,name,ver,ans⟩ e nm v=9:=by simp [acceptE,hbe,hbp,h1]
        have hS:acceptS ⟨call,st,since,cen,ep,name,ver,ans⟩ e nm v=⟨call,st,since,cen,ep,name,ver,ans⟩:=by unfold acceptS;rw [hE];simp
        rw [hE,hS]
        clear hE hS
        go_enter Tryz.func134,Tryz.ntmps134
        go_wp2_with (go_at_call 129;refine (HT.out _ _ _).mono ?_;rintro e1 w1 ⟨rfl,rfl⟩;first | rw [hbe] | rw [hbt])
        refine bodyPost_ret (v:=.tuple #[.agg #[.int .i64 (call),.int .i64 (st),.int .i64 (since),.int .i64 (cen),.int .i64 (ep),.string (name),.int .i64 (ver),.slice A ans.length c],.int .i64 9]) (by simp [results,Tryz.results134,go_sem] <;> omega) rfl ⟨A,c,rfl,H.out.same (((Keep.refl _ w).alloc _).alloc _),((Keep.refl _ w).alloc _).alloc _⟩
set_option maxHeartbeats 1000000 in
theorem rhang_any (t:Int):Calls Tryz.prog 111 #[.agg (s.cells A c).toArray,.int .i64 t] w (RefPost w Av (hangS s t) (hangE s t)):=by
 have HT:=hid number_any
 obtain ⟨call,st,since,cen,ep,name,ver,ans⟩:=s
 have H:=hid h
 clear h
 simp only [CL.cells]
 obtain ⟨bt,hbt⟩:∃ bb,(vN t 0)=bb:=⟨_,rfl⟩
 cases bt with
 | false =>
   have hE:hangE ⟨call,st,since,cen,ep,name,ver,ans⟩ t=1:=by simp [hangE,hbt]
   have hS:hangS ⟨call,st,since,cen,ep,name,ver,ans⟩ t=⟨call,st,since,cen,ep,name,ver,ans⟩:=by unfold hangS;rw [hE];simp
   rw [hE,hS]
   clear hE hS
   go_enter Tryz.func111,Tryz.ntmps111
   go_wp2_with (go_at_call 129;refine (HT.out _ _ _).mono ?_;rintro e1 w1 ⟨rfl,rfl⟩;first | rw [hbe] | rw [hbt])
   refine bodyPost_ret (v:=.tuple #[.agg #[.int .i64 (call),.int .i64 (st),.int .i64 (since),.int .i64 (cen),.int .i64 (ep),.string (name),.int .i64 (ver),.slice A ans.length c],.int .i64 1]) (by simp [results,Tryz.results111,go_sem] <;> omega) rfl ⟨A,c,rfl,H.out.same (((Keep.refl _ w).alloc _).alloc _),((Keep.refl _ w).alloc _).alloc _⟩
 | true =>
   by_cases hst3:st=3
   ·have ghst3:(st == (3:Int))=true:=by simpa using hst3
    have hE:hangE ⟨call,st,since,cen,ep,name,ver,ans⟩ t=8:=by simp [hangE,hbt,hst3]
    have hS:hangS ⟨call,st,since,cen,ep,name,ver,ans⟩ t=⟨call,st,since,cen,ep,name,ver,ans⟩:=by unfold hangS;rw [hE];simp [hst3]
    rw [hE,hS]
    clear hE hS
    go_enter Tryz.func111,Tryz.ntmps111
    go_wp2_with (go_at_call 129;refine (HT.out _ _ _).mono ?_;rintro e1 w1 ⟨rfl,rfl⟩;first | rw [hbe] | rw [hbt])
    refine bodyPost_ret (v:=.tuple #[.agg #[.int .i64 (call),.int .i64 (st),.int .i64 (since),.int .i64 (cen),.int .i64 (ep),.string (name),.int .i64 (ver),.slice A ans.length c],.int .i64 8]) (by simp [results,Tryz.results111,go_sem] <;> omega) rfl ⟨A,c,rfl,H.out.same (((Keep.refl _ w).alloc _).alloc _),((Keep.refl _ w).alloc _).alloc _⟩
   ·have ghst3:(st == (3:Int))=false:=by simpa using hst3
    by_cases hst5:st=5
    ·have ghst5:(st == (5:Int))=true:=by simpa using hst5
     have hE:hangE ⟨call,st,since,cen,ep,name,ver,ans⟩ t=8:=by simp [hangE,hbt,hst5]
     have hS:hangS ⟨call,st,since,cen,ep,name,ver,ans⟩ t=⟨call,st,since,cen,ep,name,ver,ans⟩:=by unfold hangS;rw [hE];simp [hst5]
     rw [hE,hS]
     clear hE hS
     go_enter Tryz.func111,Tryz.ntmps111
     go_wp2_with (go_at_call 129;refine (HT.out _ _ _).mono ?_;rintro e1 w1 ⟨rfl,rfl⟩;first | rw [hbe] | rw [hbt])
     refine bodyPost_ret (v:=.tuple #[.agg #[.int .i64 (call),.int .i64 (st),.int .i64 (since),.int .i64 (cen),.int .i64 (ep),.string (name),.int .i64 (ver),.slice A ans.length c],.int .i64 8]) (by simp [results,Tryz.results111,go_sem] <;> omega) rfl ⟨A,c,rfl,H.out.same (((Keep.refl _ w).alloc _).alloc _),((Keep.refl _ w).alloc _).alloc _⟩
    ·have ghst5:(st == (5:Int))=false:=by simpa using hst5
     by_cases hst1:st=1
     ·have ghst1:(st == (1:Int))=true:=by simpa using hst1
      have hE:hangE ⟨call,st,since,cen,ep,name,ver,ans⟩ t=0:=by simp [hangE,hbt,hst1]
      have hS:hangS ⟨call,st,since,cen,ep,name,ver,ans⟩ t=⟨call,3,since,cen,ep,name,ver,ans⟩:=by unfold hangS;rw [hE];simp [hst1]
      rw [hE,hS]
      clear hE hS
      go_enter Tryz.func111,Tryz.ntmps111
      go_wp2_with (go_at_call 129;refine (HT.out _ _ _).mono ?_;rintro e1 w1 ⟨rfl,rfl⟩;first | rw [hbe] | rw [hbt])
      refine bodyPost_ret (v:=.tuple #[.agg #[.int .i64 (call),.int .i64 (3),.int .i64 (since),.int .i64 (cen),.int .i64 (ep),.string (name),.int .i64 (ver),.slice A ans.length c],.int .i64 0]) (by simp [results,Tryz.results111,go_sem] <;> omega) rfl ⟨A,c,rfl,H.out.same (((Keep.refl _ w).alloc _).alloc _),((Keep.refl _ w).alloc _).alloc _⟩
     ·have ghst1:(st == (1:Int))=false:=by simpa using hst1
      have hE:hangE ⟨call,st,since,cen,ep,name,ver,ans⟩ t=0:=by simp [hangE,hbt,hst3,hst5]
      have hS:hangS ⟨call,st,since,cen,ep,name,ver,ans⟩ t=⟨call,3,t,cen,ep,name,ver,ans⟩:=by unfold hangS;rw [hE];simp [hst1]
      rw [hE,hS]
      clear hE hS
      go_enter Tryz.func111,Tryz.ntmps111
      go_wp2_with (go_at_call 129;refine (HT.out _ _ _).mono ?_;rintro e1 w1 ⟨rfl,rfl⟩;first | rw [hbe] | rw [hbt])
      refine bodyPost_ret (v:=.tuple #[.agg #[.int .i64 (call),.int .i64 (3),.int .i64 (t),.int .i64 (cen),.int .i64 (ep),.string (name),.int .i64 (ver),.slice A ans.length c],.int .i64 0]) (by simp [results,Tryz.results111,go_sem] <;> omega) rfl ⟨A,c,rfl,H.out.same (((Keep.refl _ w).alloc _).alloc _),((Keep.refl _ w).alloc _).alloc _⟩
set_option maxHeartbeats 1000000 in
theorem rback_any (e:Int):Calls Tryz.prog 114 #[.agg (s.cells A c).toArray,.int .i64 e] w (RefPost w Av (backS s e) (backE s e)):=by
 have HT:=hid number_any
 obtain ⟨call,st,since,cen,ep,name,ver,ans⟩:=s
 have H:=hid h
 clear h
 simp only [CL.cells]
 obtain ⟨be,hbe⟩:∃ bb,(vN e 1)=bb:=⟨_,rfl⟩
 cases be with
 | false =>
   have hE:backE ⟨call,st,since,cen,ep,name,ver,ans⟩ e=1:=by simp [backE,hbe]
   have hS:backS ⟨call,st,since,cen,ep,name,ver,ans⟩ e=⟨call,st,since,cen,ep,name,ver,ans⟩:=by unfold backS;rw [hE];simp
   rw [hE,hS]
   clear hE hS
   go_enter Tryz.func114,Tryz.ntmps114
   go_wp2_with (go_at_call 129;refine (HT.out _ _ _).mono ?_;rintro e1 w1 ⟨rfl,rfl⟩;first | rw [hbe] | rw [hbt])
   refine bodyPost_ret (v:=.tuple #[.agg #[.int .i64 (call),.int .i64 (st),.int .i64 (since),.int .i64 (cen),.int .i64 (ep),.string (name),.int .i64 (ver),.slice A ans.length c],.int .i64 1]) (by simp [results,Tryz.results114,go_sem] <;> omega) rfl ⟨A,c,rfl,H.out.same (((Keep.refl _ w).alloc _).alloc _),((Keep.refl _ w).alloc _).alloc _⟩
 | true =>
   by_cases h1:e=ep
   ·subst h1
    by_cases hst3:st=3
    ·have ghst3:(st == (3:Int))=true:=by simpa using hst3
     have hE:backE ⟨call,st,since,cen,e,name,ver,ans⟩ e=0:=by simp [backE,hbe,hst3]
     have hS:backS ⟨call,st,since,cen,e,name,ver,ans⟩ e=⟨call,4,-1,cen,e,name,ver,ans⟩:=by unfold backS;rw [hE];simp
     rw [hE,hS]
     clear hE hS
     go_enter Tryz.func114,Tryz.ntmps114
     go_wp2_with (go_at_call 129;refine (HT.out _ _ _).mono ?_;rintro e1 w1 ⟨rfl,rfl⟩;first | rw [hbe] | rw [hbt])
     refine bodyPost_ret (v:=.tuple #[.agg #[.int .i64 (call),.int .i64 (4),.int .i64 (-1),.int .i64 (cen),.int .i64 (e),.string (name),.int .i64 (ver),.slice A ans.length c],.int .i64 0]) (by simp [results,Tryz.results114,go_sem] <;> omega) rfl ⟨A,c,rfl,H.out.same (((Keep.refl _ w).alloc _).alloc _),((Keep.refl _ w).alloc _).alloc _⟩
    ·have ghst3:(st == (3:Int))=false:=by simpa using hst3
     have hE:backE ⟨call,st,since,cen,e,name,ver,ans⟩ e=8:=by simp [backE,hbe,hst3]
     have hS:backS ⟨call,st,since,cen,e,name,ver,ans⟩ e=⟨call,st,since,cen,e,name,ver,ans⟩:=by unfold backS;rw [hE];simp
     rw [hE,hS]
     clear hE hS
     go_enter Tryz.func114,Tryz.ntmps114
     go_wp2_with (go_at_call 129;refine (HT.out _ _ _).mono ?_;rintro e1 w1 ⟨rfl,rfl⟩;first | rw [hbe] | rw [hbt])
     refine bodyPost_ret (v:=.tuple #[.agg #[.int .i64 (call),.int .i64 (st),.int .i64 (since),.int .i64 (cen),.int .i64 (e),.string (name),.int .i64 (ver),.slice A ans.length c],.int .i64 8]) (by simp [results,Tryz.results114,go_sem] <;> omega) rfl ⟨A,c,rfl,H.out.same (((Keep.refl _ w).alloc _).alloc _),((Keep.refl _ w).alloc _).alloc _⟩
   ·have gh1:(e == ep)=false:=by simpa using h1
    have hE:backE ⟨call,st,since,cen,ep,name,ver,ans⟩ e=9:=by simp [backE,hbe,h1]
    have hS:backS ⟨call,st,since,cen,ep,name,ver,ans⟩ e=⟨call,st,since,cen,ep,name,ver,ans⟩:=by unfold backS;rw [hE];simp
    rw [hE,hS]
    clear hE hS
    go_enter Tryz.func114,Tryz.ntmps114
    go_wp2_with (go_at_call 129;refine (HT.out _ _ _).mono ?_;rintro e1 w1 ⟨rfl,rfl⟩;first | rw [hbe] | rw [hbt])
    refine bodyPost_ret (v:=.tuple #[.agg #[.int .i64 (call),.int .i64 (st),.int .i64 (since),.int .i64 (cen),.int .i64 (ep),.string (name),.int .i64 (ver),.slice A ans.length c],.int .i64 9]) (by simp [results,Tryz.results114,go_sem] <;> omega) rfl ⟨A,c,rfl,H.out.same (((Keep.refl _ w).alloc _).alloc _),((Keep.refl _ w).alloc _).alloc _⟩
set_option maxHeartbeats 1000000 in
theorem rclose_any (e:Int):Calls Tryz.prog 115 #[.agg (s.cells A c).toArray,.int .i64 e] w (RefPost w Av (closeS s e) (closeE s e)):=by
 have HT:=hid number_any
 obtain ⟨call,st,since,cen,ep,name,ver,ans⟩:=s
 have H:=hid h
 clear h
 simp only [CL.cells]
 obtain ⟨be,hbe⟩:∃ bb,(vN e 1)=bb:=⟨_,rfl⟩
 cases be with
 | false =>
   have hE:closeE ⟨call,st,since,cen,ep,name,ver,ans⟩ e=1:=by simp [closeE,hbe]
   have hS:closeS ⟨call,st,since,cen,ep,name,ver,ans⟩ e=⟨call,st,since,cen,ep,name,ver,ans⟩:=by unfold closeS;rw [hE];simp
   rw [hE,hS]
   clear hE hS
   go_enter Tryz.func115,Tryz.ntmps115
   go_wp2_with (go_at_call 129;refine (HT.out _ _ _).mono ?_;rintro e1 w1 ⟨rfl,rfl⟩;first | rw [hbe] | rw [hbt])
   refine bodyPost_ret (v:=.tuple #[.agg #[.int .i64 (call),.int .i64 (st),.int .i64 (since),.int .i64 (cen),.int .i64 (ep),.string (name),.int .i64 (ver),.slice A ans.length c],.int .i64 1]) (by simp [results,Tryz.results115,go_sem] <;> omega) rfl ⟨A,c,rfl,H.out.same (((Keep.refl _ w).alloc _).alloc _),((Keep.refl _ w).alloc _).alloc _⟩
 | true =>
   by_cases h1:e=ep
   ·subst h1
    by_cases hst5:st=5
    ·have ghst5:(st == (5:Int))=true:=by simpa using hst5
     have hE:closeE ⟨call,st,since,cen,e,name,ver,ans⟩ e=8:=by simp [closeE,hbe,hst5]
     have hS:closeS ⟨call,st,since,cen,e,name,ver,ans⟩ e=⟨call,st,since,cen,e,name,ver,ans⟩:=by unfold closeS;rw [hE];simp [hst5]
     rw [hE,hS]
     clear hE hS
     go_enter Tryz.func115,Tryz.ntmps115
     go_wp2_with (go_at_call 129;refine (HT.out _ _ _).mono ?_;rintro e1 w1 ⟨rfl,rfl⟩;first | rw [hbe] | rw [hbt])
     refine bodyPost_ret (v:=.tuple #[.agg #[.int .i64 (call),.int .i64 (st),.int .i64 (since),.int .i64 (cen),.int .i64 (e),.string (name),.int .i64 (ver),.slice A ans.length c],.int .i64 8]) (by simp [results,Tryz.results115,go_sem] <;> omega) rfl ⟨A,c,rfl,H.out.same (((Keep.refl _ w).alloc _).alloc _),((Keep.refl _ w).alloc _).alloc _⟩
    ·have ghst5:(st == (5:Int))=false:=by simpa using hst5
     have hE:closeE ⟨call,st,since,cen,e,name,ver,ans⟩ e=0:=by simp [closeE,hbe,hst5]
     have hS:closeS ⟨call,st,since,cen,e,name,ver,ans⟩ e=⟨call,5,-1,cen,e,name,ver,ans⟩:=by unfold closeS;rw [hE];simp
     rw [hE,hS]
     clear hE hS
     go_enter Tryz.func115,Tryz.ntmps115
     go_wp2_with (go_at_call 129;refine (HT.out _ _ _).mono ?_;rintro e1 w1 ⟨rfl,rfl⟩;first | rw [hbe] | rw [hbt])
     refine bodyPost_ret (v:=.tuple #[.agg #[.int .i64 (call),.int .i64 (5),.int .i64 (-1),.int .i64 (cen),.int .i64 (e),.string (name),.int .i64 (ver),.slice A ans.length c],.int .i64 0]) (by simp [results,Tryz.results115,go_sem] <;> omega) rfl ⟨A,c,rfl,H.out.same (((Keep.refl _ w).alloc _).alloc _),((Keep.refl _ w).alloc _).alloc _⟩
   ·have gh1:(e == ep)=false:=by simpa using h1
    have hE:closeE ⟨call,st,since,cen,ep,name,ver,ans⟩ e=9:=by simp [closeE,hbe,h1]
    have hS:closeS ⟨call,st,since,cen,ep,name,ver,ans⟩ e=⟨call,st,since,cen,ep,name,ver,ans⟩:=by unfold closeS;rw [hE];simp
    rw [hE,hS]
    clear hE hS
    go_enter Tryz.func115,Tryz.ntmps115
    go_wp2_with (go_at_call 129;refine (HT.out _ _ _).mono ?_;rintro e1 w1 ⟨rfl,rfl⟩;first | rw [hbe] | rw [hbt])
    refine bodyPost_ret (v:=.tuple #[.agg #[.int .i64 (call),.int .i64 (st),.int .i64 (since),.int .i64 (cen),.int .i64 (ep),.string (name),.int .i64 (ver),.slice A ans.length c],.int .i64 9]) (by simp [results,Tryz.results115,go_sem] <;> omega) rfl ⟨A,c,rfl,H.out.same (((Keep.refl _ w).alloc _).alloc _),((Keep.refl _ w).alloc _).alloc _⟩
end
def saySR (s:CL) (a:Int):CL:=if sayE s a=0 then { s with st:=2,since:=-1,ans:=s.ans++[a] } else s
section
variable (w:World) (Av:Nat→Prop) (A:Option Addr) (c:Nat) (s:CL) (h:Sl w Av 1 A s.ans.length (icells s.ans))
include h
set_option maxHeartbeats 4000000 in
set_option maxRecDepth 100000 in
theorem rsay_any (a:Int) (hl:s.ans.length≤1000) (hAv:∀ i,Av i→i<w.heap.size):Calls Tryz.prog 107 #[.agg (s.cells A c).toArray,.int .i64 a] w (RefPost w Av (saySR s a) (sayE s a)):=by
 have HT:=hid number_any
 obtain ⟨call,st,since,cen,ep,name,ver,ans⟩:=s
 have H:=hid h
 clear h
 simp only [CL.cells]
 by_cases h0:a<0
 ·have hE:sayE ⟨call,st,since,cen,ep,name,ver,ans⟩ a=1:=by simp [sayE,h0]
  have hS:saySR ⟨call,st,since,cen,ep,name,ver,ans⟩ a=⟨call,st,since,cen,ep,name,ver,ans⟩:=by unfold saySR;rw [hE];simp
  rw [hE,hS]
  clear hE hS
  go_enter Tryz.func107,Tryz.ntmps107
  go_wp2_with (go_at_call 129;refine (HT.out _ _ _).mono ?_;rintro e1 w1 ⟨rfl,rfl⟩;first | rw [hbe] | rw [hbt])
  refine bodyPost_ret (v:=.tuple #[.agg #[.int .i64 (call),.int .i64 (st),.int .i64 (since),.int .i64 (cen),.int .i64 (ep),.string (name),.int .i64 (ver),.slice A ans.length c],.int .i64 1]) (by simp [results,Tryz.results107,go_sem] <;> omega) rfl ⟨A,c,rfl,H.out.same (((Keep.refl _ w).alloc _).alloc _),((Keep.refl _ w).alloc _).alloc _⟩
 ·by_cases h15:15<a
  ·have hE:sayE ⟨call,st,since,cen,ep,name,ver,ans⟩ a=1:=by simp [sayE,h0,h15]
   have hS:saySR ⟨call,st,since,cen,ep,name,ver,ans⟩ a=⟨call,st,since,cen,ep,name,ver,ans⟩:=by unfold saySR;rw [hE];simp
   rw [hE,hS]
   clear hE hS
   go_enter Tryz.func107,Tryz.ntmps107
   go_wp2_with (go_at_call 129;refine (HT.out _ _ _).mono ?_;rintro e1 w1 ⟨rfl,rfl⟩;first | rw [hbe] | rw [hbt])
   refine bodyPost_ret (v:=.tuple #[.agg #[.int .i64 (call),.int .i64 (st),.int .i64 (since),.int .i64 (cen),.int .i64 (ep),.string (name),.int .i64 (ver),.slice A ans.length c],.int .i64 1]) (by simp [results,Tryz.results107,go_sem] <;> omega) rfl ⟨A,c,rfl,H.out.same (((Keep.refl _ w).alloc _).alloc _),((Keep.refl _ w).alloc _).alloc _⟩
  ·by_cases hst2:st=2
   ·subst hst2
    obtain ⟨bn,hbn⟩:∃ bb,(name.toList == [])=bb:=⟨_,rfl⟩
    cases bn with
    | false =>
      by_cases h200:200≤ans.length
      ·have h2i:(200:Int)≤ans.length:=by omega
       have hE:sayE ⟨call,2,since,cen,ep,name,ver,ans⟩ a=3:=by simp [sayE,h0,h15,hbn,h200]
       have hS:saySR ⟨call,2,since,cen,ep,name,ver,ans⟩ a=⟨call,2,since,cen,ep,name,ver,ans⟩:=by unfold saySR;rw [hE];simp
       rw [hE,hS]
       clear hE hS
       go_enter Tryz.func107,Tryz.ntmps107
       go_wp2_with (go_at_call 129;refine (HT.out _ _ _).mono ?_;rintro e1 w1 ⟨rfl,rfl⟩;first | rw [hbe] | rw [hbt])
       refine bodyPost_ret (v:=.tuple #[.agg #[.int .i64 (call),.int .i64 (2),.int .i64 (since),.int .i64 (cen),.int .i64 (ep),.string (name),.int .i64 (ver),.slice A ans.length c],.int .i64 3]) (by simp [results,Tryz.results107,go_sem] <;> omega) rfl ⟨A,c,rfl,H.out.same (((Keep.refl _ w).alloc _).alloc _),((Keep.refl _ w).alloc _).alloc _⟩
      ·have hE:sayE ⟨call,2,since,cen,ep,name,ver,ans⟩ a=0:=by simp [sayE,h0,h15,hbn,h200]
       have hS:saySR ⟨call,2,since,cen,ep,name,ver,ans⟩ a=⟨call,2,-1,cen,ep,name,ver,ans++[a]⟩:=by unfold saySR;rw [hE];simp
       rw [hE,hS]
       clear hE hS
       simp only at hl
       have hn0:(ans.length:Int)<200:=by omega
       have hk1:Same w ((w.alloc (.cells #[.int .i64 call,.int .i64 2,.int .i64 (-1),.int .i64 cen,.int .i64 ep,.string name,.int .i64 ver,.slice A ans.length c] 50)).alloc (.cells #[.int .i64 0,.int .i64 0,.int .i64 0,.int .i64 0,.int .i64 0,.string ⟨#[]⟩,.int .i64 0,.slice none 0 0] 50)):=((Keep.refl _ w).alloc _).alloc _
       have HK1:=hid hk1
       have hbox:=(Blk.made w 50 #[.int .i64 call,.int .i64 2,.int .i64 (-1),.int .i64 cen,.int .i64 ep,.string name,.int .i64 ver,.slice A ans.length c]).alloc (.cells #[.int .i64 0,.int .i64 0,.int .i64 0,.int .i64 0,.int .i64 0,.string ⟨#[]⟩,.int .i64 0,.slice none 0 0] 50)
       have hres:=Blk.made (w.alloc (.cells #[.int .i64 call,.int .i64 2,.int .i64 (-1),.int .i64 cen,.int .i64 ep,.string name,.int .i64 ver,.slice A ans.length c] 50)) 50 #[.int .i64 0,.int .i64 0,.int .i64 0,.int .i64 0,.int .i64 0,.string ⟨#[]⟩,.int .i64 0,.slice none 0 0]
       rw [World.size_alloc] at hres
       have HBX:=hid hbox
       have HRES:=hid hres
       have ho0:=Own.of_blk (Nat.le_refl _) (Blk.made ((w.alloc (.cells #[.int .i64 call,.int .i64 2,.int .i64 (-1),.int .i64 cen,.int .i64 ep,.string name,.int .i64 ver,.slice A ans.length c] 50)).alloc (.cells #[.int .i64 0,.int .i64 0,.int .i64 0,.int .i64 0,.int .i64 0,.string ⟨#[]⟩,.int .i64 0,.slice none 0 0] 50)) 3 #[]) (Nat.le_refl 0) (by simp [maxLen]) (by simp:(#[]:Array Value).size=0 * 1) (xs:=[]) (by simp)
       have HO0:=hid ho0
       have HSR:=hid ((H.out.same (hk1.alloc (.cells #[] 3))).src (Keep.refl (fun _=>False) _))
       have HAL:=hid (icells_len ans)
       have HT:=hid (show icells ans++[.int .i64 a]=icells (ans++[a]) by simp [icells])
       clear hk1 hbox hres ho0
       go_enter Tryz.func107,Tryz.ntmps107
       go_wp2_with (first
        | (at_builtin
           refine EIn.law2 (.tmp 34) (.tmp 36) (.slice (some ⟨((w.alloc (.cells #[.int .i64 call,.int .i64 2,.int .i64 (-1),.int .i64 cen,.int .i64 ep,.string name,.int .i64 ver,.slice A ans.length c] 50)).alloc (.cells #[.int .i64 0,.int .i64 0,.int .i64 0,.int .i64 0,.int .i64 0,.string ⟨#[]⟩,.int .i64 0,.slice none 0 0] 50)).heap.size,0,none⟩) 0 0) A ans.length c (by rfl) (by rfl) (by simp [Act.eval]) (by simp [Act.eval]) ((w.alloc (.cells #[.int .i64 call,.int .i64 2,.int .i64 (-1),.int .i64 cen,.int .i64 ep,.string name,.int .i64 ver,.slice A ans.length c] 50)).alloc (.cells #[.int .i64 0,.int .i64 0,.int .i64 0,.int .i64 0,.int .i64 0,.string ⟨#[]⟩,.int .i64 0,.slice none 0 0] 50)).heap.size 0 [] (icells ans) ans.length _ (Nat.zero_add _) rfl HO0.out (by rw [HAL.out];omega) HSR.out (icells_one _) (by omega) (by unfold maxLen;omega) (by simp) ?_
           intro A2 c2 w2 ho hg hw
           have hk12:=((Keep.refl (fun g=>((w.alloc (.cells #[.int .i64 call,.int .i64 2,.int .i64 (-1),.int .i64 cen,.int .i64 ep,.string name,.int .i64 ver,.slice A ans.length c] 50)).alloc (.cells #[.int .i64 0,.int .i64 0,.int .i64 0,.int .i64 0,.int .i64 0,.string ⟨#[]⟩,.int .i64 0,.slice none 0 0] 50)).heap.size≤g) ((w.alloc (.cells #[.int .i64 call,.int .i64 2,.int .i64 (-1),.int .i64 cen,.int .i64 ep,.string name,.int .i64 ver,.slice A ans.length c] 50)).alloc (.cells #[.int .i64 0,.int .i64 0,.int .i64 0,.int .i64 0,.int .i64 0,.string ⟨#[]⟩,.int .i64 0,.slice none 0 0] 50))).alloc (.cells #[] 3)).app HO0.out hg (fun g h1 h2=>h1)
           have HK12:=hid hk12
           have hz2:=hk12.size
           have HO2:=hid (World.ownsRow.alloc ho (.cells #[.int .i64 a] 3))
           simp only [World.size_alloc] at hz2
           clear ho hg hw hk12)
        | (at_builtin
           refine EIn.law2 (.tmp 37) (.tmp 39) (.slice A2 ans.length c2) (some ⟨w2.heap.size,0,none⟩) 1 1 rfl rfl rfl rfl ((w.alloc (.cells #[.int .i64 call,.int .i64 2,.int .i64 (-1),.int .i64 cen,.int .i64 ep,.string name,.int .i64 ver,.slice A ans.length c] 50)).alloc (.cells #[.int .i64 0,.int .i64 0,.int .i64 0,.int .i64 0,.int .i64 0,.string ⟨#[]⟩,.int .i64 0,.slice none 0 0] 50)).heap.size ans.length (icells ans) [.int .i64 a] (ans.length+1) _ rfl rfl HO2.out rfl (fun _=>⟨_,rfl,src_new rfl⟩) (by intro u hu;simp at hu;subst hu;rfl) (by omega) (by unfold maxLen;omega) (by simp only [World.size_alloc];omega) ?_
           intro A3 c3 w3 ho hg hw
           have hk13:=(HK12.out.alloc (.cells #[.int .i64 a] 3)).app HO2.out hg (fun g h1 h2=>h1)
           have hb3:=HBX.out.keep hk13 (by simp only [World.size_alloc];omega)
           have hr3:=HRES.out.keep hk13 (by simp only [World.size_alloc];omega)
           have d0:=hb3.at_ 0
           have e0:=hb3.free 0
           have z0:=hr3.at_ 0
           have y0:=hr3.free 0
           have d1:=hb3.at_ 1
           have e1:=hb3.free 1
           have z1:=hr3.at_ 1
           have y1:=hr3.free 1
           have d2:=hb3.at_ 2
           have e2:=hb3.free 2
           have z2:=hr3.at_ 2
           have y2:=hr3.free 2
           have d3:=hb3.at_ 3
           have e3:=hb3.free 3
           have z3:=hr3.at_ 3
           have y3:=hr3.free 3
           have d4:=hb3.at_ 4
           have e4:=hb3.free 4
           have z4:=hr3.at_ 4
           have y4:=hr3.free 4
           have d5:=hb3.at_ 5
           have e5:=hb3.free 5
           have z5:=hr3.at_ 5
           have y5:=hr3.free 5
           have d6:=hb3.at_ 6
           have e6:=hb3.free 6
           have z6:=hr3.at_ 6
           have y6:=hr3.free 6
           have d7:=hb3.at_ 7
           have e7:=hb3.free 7
           have z7:=hr3.at_ 7
           have y7:=hr3.free 7
           have HB3:=hid hb3
           have HR3:=hid hr3
           have HK3:=hid (HK1.out.trans hk13 (fun i hi hs=>by simp at hs;omega))
           have HO3:=hid ho
           have hlt3:=hr3.lt
           simp at d0 d1 d2 d3 d4 d5 d6 d7 z0 z1 z2 z3 z4 z5 z6 z7
           clear ho hg hw hk13 hb3 hr3))
       have hlen:(ans++[a]).length=ans.length+1:=by simp
       have hkA:=(Keep.refl (· = w.heap.size) w3).put 7 (.slice A3 (ans.length+1) c3)
       have hrA:=HR3.out.keep hkA (by omega)
       have hkB:=(((((((((Keep.refl (· = w.heap.size+1) (w3.setCell ⟨w.heap.size,7,none⟩ (.slice A3 (ans.length+1) c3))).put 0 (.int .i64 call)).put 1 (.int .i64 2)).put 2 (.int .i64 (-1))).put 3 (.int .i64 cen)).put 4 (.int .i64 ep)).put 5 (.string name)).put 6 (.int .i64 ver)).put 7 (.slice A3 (ans.length+1) c3))
       have hrB:=((((((((hrA.put 0 (.int .i64 call)).put 1 (.int .i64 2)).put 2 (.int .i64 (-1))).put 3 (.int .i64 cen)).put 4 (.int .i64 ep)).put 5 (.string name)).put 6 (.int .i64 ver)).put 7 (.slice A3 (ans.length+1) c3))
       have hkC:=(hkA.wide (T:=fun i=>i=w.heap.size∨i=w.heap.size+1) (fun _ _ e=>.inl e)).trans (hkB.wide (T:=fun i=>i=w.heap.size∨i=w.heap.size+1) (fun _ _ e=>.inr e)) (fun _ _ e=>e)
       generalize (((((((((w3.setCell ⟨w.heap.size,7,none⟩ (.slice A3 (ans.length+1) c3)).setCell ⟨w.heap.size+1,0,none⟩ (.int .i64 call)).setCell ⟨w.heap.size+1,1,none⟩ (.int .i64 2)).setCell ⟨w.heap.size+1,2,none⟩ (.int .i64 (-1))).setCell ⟨w.heap.size+1,3,none⟩ (.int .i64 cen)).setCell ⟨w.heap.size+1,4,none⟩ (.int .i64 ep)).setCell ⟨w.heap.size+1,5,none⟩ (.string name)).setCell ⟨w.heap.size+1,6,none⟩ (.int .i64 ver)).setCell ⟨w.heap.size+1,7,none⟩ (.slice A3 (ans.length+1) c3))=WW at *
       have q0:=hrB.at_ 0
       have q1:=hrB.at_ 1
       have q2:=hrB.at_ 2
       have q3:=hrB.at_ 3
       have q4:=hrB.at_ 4
       have q5:=hrB.at_ 5
       have q6:=hrB.at_ 6
       have q7:=hrB.at_ 7
       simp at q0 q1 q2 q3 q4 q5 q6 q7
       refine bodyPost_ret (v:=.tuple #[.agg #[.int .i64 call,.int .i64 2,.int .i64 (-1),.int .i64 cen,.int .i64 ep,.string name,.int .i64 ver,.slice A3 (ans.length+1) c3],.int .i64 0]) (by simp [results,Tryz.results107,go_sem,q0,q1,q2,q3,q4,q5,q6,q7]) rfl ⟨A3,c3,by simp [CL.cells],?_,HK3.out.trans hkC (fun i hi e=>by omega)⟩
       simp only
       rw [hlen,←HT.out]
       exact (HO3.out.keep hkC (fun i hi _ hs=>by simp only [World.size_alloc] at hi;omega)).sl (fun g hg ha=>by have:=hAv g ha;simp only [World.size_alloc] at hg;omega)
    | true =>
      have hE:sayE ⟨call,2,since,cen,ep,name,ver,ans⟩ a=8:=by simp [sayE,h0,h15,hbn]
      have hS:saySR ⟨call,2,since,cen,ep,name,ver,ans⟩ a=⟨call,2,since,cen,ep,name,ver,ans⟩:=by unfold saySR;rw [hE];simp
      rw [hE,hS]
      clear hE hS
      go_enter Tryz.func107,Tryz.ntmps107
      go_wp2_with (go_at_call 129;refine (HT.out _ _ _).mono ?_;rintro e1 w1 ⟨rfl,rfl⟩;first | rw [hbe] | rw [hbt])
      refine bodyPost_ret (v:=.tuple #[.agg #[.int .i64 (call),.int .i64 (2),.int .i64 (since),.int .i64 (cen),.int .i64 (ep),.string (name),.int .i64 (ver),.slice A ans.length c],.int .i64 8]) (by simp [results,Tryz.results107,go_sem] <;> omega) rfl ⟨A,c,rfl,H.out.same (((Keep.refl _ w).alloc _).alloc _),((Keep.refl _ w).alloc _).alloc _⟩
   ·have ghst2:(st == (2:Int))=false:=by simpa using hst2
    by_cases hst4:st=4
    ·subst hst4
     obtain ⟨bn,hbn⟩:∃ bb,(name.toList == [])=bb:=⟨_,rfl⟩
     cases bn with
     | false =>
       by_cases h200:200≤ans.length
       ·have h2i:(200:Int)≤ans.length:=by omega
        have hE:sayE ⟨call,4,since,cen,ep,name,ver,ans⟩ a=3:=by simp [sayE,h0,h15,hst2,hbn,h200]
        have hS:saySR ⟨call,4,since,cen,ep,name,ver,ans⟩ a=⟨call,4,since,cen,ep,name,ver,ans⟩:=by unfold saySR;rw [hE];simp
        rw [hE,hS]
        clear hE hS
        go_enter Tryz.func107,Tryz.ntmps107
        go_wp2_with (go_at_call 129;refine (HT.out _ _ _).mono ?_;rintro e1 w1 ⟨rfl,rfl⟩;first | rw [hbe] | rw [hbt])
        refine bodyPost_ret (v:=.tuple #[.agg #[.int .i64 (call),.int .i64 (4),.int .i64 (since),.int .i64 (cen),.int .i64 (ep),.string (name),.int .i64 (ver),.slice A ans.length c],.int .i64 3]) (by simp [results,Tryz.results107,go_sem] <;> omega) rfl ⟨A,c,rfl,H.out.same (((Keep.refl _ w).alloc _).alloc _),((Keep.refl _ w).alloc _).alloc _⟩
       ·have hE:sayE ⟨call,4,since,cen,ep,name,ver,ans⟩ a=0:=by simp [sayE,h0,h15,hst2,hbn,h200]
        have hS:saySR ⟨call,4,since,cen,ep,name,ver,ans⟩ a=⟨call,2,-1,cen,ep,name,ver,ans++[a]⟩:=by unfold saySR;rw [hE];simp
        rw [hE,hS]
        clear hE hS
        simp only at hl
        have hn0:(ans.length:Int)<200:=by omega
        have hk1:Same w ((w.alloc (.cells #[.int .i64 call,.int .i64 2,.int .i64 (-1),.int .i64 cen,.int .i64 ep,.string name,.int .i64 ver,.slice A ans.length c] 50)).alloc (.cells #[.int .i64 0,.int .i64 0,.int .i64 0,.int .i64 0,.int .i64 0,.string ⟨#[]⟩,.int .i64 0,.slice none 0 0] 50)):=((Keep.refl _ w).alloc _).alloc _
        have HK1:=hid hk1
        have hbox:=(Blk.made w 50 #[.int .i64 call,.int .i64 2,.int .i64 (-1),.int .i64 cen,.int .i64 ep,.string name,.int .i64 ver,.slice A ans.length c]).alloc (.cells #[.int .i64 0,.int .i64 0,.int .i64 0,.int .i64 0,.int .i64 0,.string ⟨#[]⟩,.int .i64 0,.slice none 0 0] 50)
        have hres:=Blk.made (w.alloc (.cells #[.int .i64 call,.int .i64 2,.int .i64 (-1),.int .i64 cen,.int .i64 ep,.string name,.int .i64 ver,.slice A ans.length c] 50)) 50 #[.int .i64 0,.int .i64 0,.int .i64 0,.int .i64 0,.int .i64 0,.string ⟨#[]⟩,.int .i64 0,.slice none 0 0]
        rw [World.size_alloc] at hres
        have HBX:=hid hbox
        have HRES:=hid hres
        have ho0:=Own.of_blk (Nat.le_refl _) (Blk.made ((w.alloc (.cells #[.int .i64 call,.int .i64 2,.int .i64 (-1),.int .i64 cen,.int .i64 ep,.string name,.int .i64 ver,.slice A ans.length c] 50)).alloc (.cells #[.int .i64 0,.int .i64 0,.int .i64 0,.int .i64 0,.int .i64 0,.string ⟨#[]⟩,.int .i64 0,.slice none 0 0] 50)) 3 #[]) (Nat.le_refl 0) (by simp [maxLen]) (by simp:(#[]:Array Value).size=0 * 1) (xs:=[]) (by simp)
        have HO0:=hid ho0
        have HSR:=hid ((H.out.same (hk1.alloc (.cells #[] 3))).src (Keep.refl (fun _=>False) _))
        have HAL:=hid (icells_len ans)
        have HT:=hid (show icells ans++[.int .i64 a]=icells (ans++[a]) by simp [icells])
        clear hk1 hbox hres ho0
        go_enter Tryz.func107,Tryz.ntmps107
        go_wp2_with (first
         | (at_builtin
            refine EIn.law2 (.tmp 34) (.tmp 36) (.slice (some ⟨((w.alloc (.cells #[.int .i64 call,.int .i64 2,.int .i64 (-1),.int .i64 cen,.int .i64 ep,.string name,.int .i64 ver,.slice A ans.length c] 50)).alloc (.cells #[.int .i64 0,.int .i64 0,.int .i64 0,.int .i64 0,.int .i64 0,.string ⟨#[]⟩,.int .i64 0,.slice none 0 0] 50)).heap.size,0,none⟩) 0 0) A ans.length c (by rfl) (by rfl) (by simp [Act.eval]) (by simp [Act.eval]) ((w.alloc (.cells #[.int .i64 call,.int .i64 2,.int .i64 (-1),.int .i64 cen,.int .i64 ep,.string name,.int .i64 ver,.slice A ans.length c] 50)).alloc (.cells #[.int .i64 0,.int .i64 0,.int .i64 0,.int .i64 0,.int .i64 0,.string ⟨#[]⟩,.int .i64 0,.slice none 0 0] 50)).heap.size 0 [] (icells ans) ans.length _ (Nat.zero_add _) rfl HO0.out (by rw [HAL.out];omega) HSR.out (icells_one _) (by omega) (by unfold maxLen;omega) (by simp) ?_
            intro A2 c2 w2 ho hg hw
            have hk12:=((Keep.refl (fun g=>((w.alloc (.cells #[.int .i64 call,.int .i64 2,.int .i64 (-1),.int .i64 cen,.int .i64 ep,.string name,.int .i64 ver,.slice A ans.length c] 50)).alloc (.cells #[.int .i64 0,.int .i64 0,.int .i64 0,.int .i64 0,.int .i64 0,.string ⟨#[]⟩,.int .i64 0,.slice none 0 0] 50)).heap.size≤g) ((w.alloc (.cells #[.int .i64 call,.int .i64 2,.int .i64 (-1),.int .i64 cen,.int .i64 ep,.string name,.int .i64 ver,.slice A ans.length c] 50)).alloc (.cells #[.int .i64 0,.int .i64 0,.int .i64 0,.int .i64 0,.int .i64 0,.string ⟨#[]⟩,.int .i64 0,.slice none 0 0] 50))).alloc (.cells #[] 3)).app HO0.out hg (fun g h1 h2=>h1)
            have HK12:=hid hk12
            have hz2:=hk12.size
            have HO2:=hid (World.ownsRow.alloc ho (.cells #[.int .i64 a] 3))
            simp only [World.size_alloc] at hz2
            clear ho hg hw hk12)
         | (at_builtin
            refine EIn.law2 (.tmp 37) (.tmp 39) (.slice A2 ans.length c2) (some ⟨w2.heap.size,0,none⟩) 1 1 rfl rfl rfl rfl ((w.alloc (.cells #[.int .i64 call,.int .i64 2,.int .i64 (-1),.int .i64 cen,.int .i64 ep,.string name,.int .i64 ver,.slice A ans.length c] 50)).alloc (.cells #[.int .i64 0,.int .i64 0,.int .i64 0,.int .i64 0,.int .i64 0,.string ⟨#[]⟩,.int .i64 0,.slice none 0 0] 50)).heap.size ans.length (icells ans) [.int .i64 a] (ans.length+1) _ rfl rfl HO2.out rfl (fun _=>⟨_,rfl,src_new rfl⟩) (by intro u hu;simp at hu;subst hu;rfl) (by omega) (by unfold maxLen;omega) (by simp only [World.size_alloc];omega) ?_
            intro A3 c3 w3 ho hg hw
            have hk13:=(HK12.out.alloc (.cells #[.int .i64 a] 3)).app HO2.out hg (fun g h1 h2=>h1)
            have hb3:=HBX.out.keep hk13 (by simp only [World.size_alloc];omega)
            have hr3:=HRES.out.keep hk13 (by simp only [World.size_alloc];omega)
            have d0:=hb3.at_ 0
            have e0:=hb3.free 0
            have z0:=hr3.at_ 0
            have y0:=hr3.free 0
            have d1:=hb3.at_ 1
            have e1:=hb3.free 1
            have z1:=hr3.at_ 1
            have y1:=hr3.free 1
            have d2:=hb3.at_ 2
            have e2:=hb3.free 2
            have z2:=hr3.at_ 2
            have y2:=hr3.free 2
            have d3:=hb3.at_ 3
            have e3:=hb3.free 3
            have z3:=hr3.at_ 3
            have y3:=hr3.free 3
            have d4:=hb3.at_ 4
            have e4:=hb3.free 4
            have z4:=hr3.at_ 4
            have y4:=hr3.free 4
            have d5:=hb3.at_ 5
            have e5:=hb3.free 5
            have z5:=hr3.at_ 5
            have y5:=hr3.free 5
            have d6:=hb3.at_ 6
            have e6:=hb3.free 6
            have z6:=hr3.at_ 6
            have y6:=hr3.free 6
            have d7:=hb3.at_ 7
            have e7:=hb3.free 7
            have z7:=hr3.at_ 7
            have y7:=hr3.free 7
            have HB3:=hid hb3
            have HR3:=hid hr3
            have HK3:=hid (HK1.out.trans hk13 (fun i hi hs=>by simp at hs;omega))
            have HO3:=hid ho
            have hlt3:=hr3.lt
            simp at d0 d1 d2 d3 d4 d5 d6 d7 z0 z1 z2 z3 z4 z5 z6 z7
            clear ho hg hw hk13 hb3 hr3))
        have hlen:(ans++[a]).length=ans.length+1:=by simp
        have hkA:=(Keep.refl (· = w.heap.size) w3).put 7 (.slice A3 (ans.length+1) c3)
        have hrA:=HR3.out.keep hkA (by omega)
        have hkB:=(((((((((Keep.refl (· = w.heap.size+1) (w3.setCell ⟨w.heap.size,7,none⟩ (.slice A3 (ans.length+1) c3))).put 0 (.int .i64 call)).put 1 (.int .i64 2)).put 2 (.int .i64 (-1))).put 3 (.int .i64 cen)).put 4 (.int .i64 ep)).put 5 (.string name)).put 6 (.int .i64 ver)).put 7 (.slice A3 (ans.length+1) c3))
        have hrB:=((((((((hrA.put 0 (.int .i64 call)).put 1 (.int .i64 2)).put 2 (.int .i64 (-1))).put 3 (.int .i64 cen)).put 4 (.int .i64 ep)).put 5 (.string name)).put 6 (.int .i64 ver)).put 7 (.slice A3 (ans.length+1) c3))
        have hkC:=(hkA.wide (T:=fun i=>i=w.heap.size∨i=w.heap.size+1) (fun _ _ e=>.inl e)).trans (hkB.wide (T:=fun i=>i=w.heap.size∨i=w.heap.size+1) (fun _ _ e=>.inr e)) (fun _ _ e=>e)
        generalize (((((((((w3.setCell ⟨w.heap.size,7,none⟩ (.slice A3 (ans.length+1) c3)).setCell ⟨w.heap.size+1,0,none⟩ (.int .i64 call)).setCell ⟨w.heap.size+1,1,none⟩ (.int .i64 2)).setCell ⟨w.heap.size+1,2,none⟩ (.int .i64 (-1))).setCell ⟨w.heap.size+1,3,none⟩ (.int .i64 cen)).setCell ⟨w.heap.size+1,4,none⟩ (.int .i64 ep)).setCell ⟨w.heap.size+1,5,none⟩ (.string name)).setCell ⟨w.heap.size+1,6,none⟩ (.int .i64 ver)).setCell ⟨w.heap.size+1,7,none⟩ (.slice A3 (ans.length+1) c3))=WW at *
        have q0:=hrB.at_ 0
        have q1:=hrB.at_ 1
        have q2:=hrB.at_ 2
        have q3:=hrB.at_ 3
        have q4:=hrB.at_ 4
        have q5:=hrB.at_ 5
        have q6:=hrB.at_ 6
        have q7:=hrB.at_ 7
        simp at q0 q1 q2 q3 q4 q5 q6 q7
        refine bodyPost_ret (v:=.tuple #[.agg #[.int .i64 call,.int .i64 2,.int .i64 (-1),.int .i64 cen,.int .i64 ep,.string name,.int .i64 ver,.slice A3 (ans.length+1) c3],.int .i64 0]) (by simp [results,Tryz.results107,go_sem,q0,q1,q2,q3,q4,q5,q6,q7]) rfl ⟨A3,c3,by simp [CL.cells],?_,HK3.out.trans hkC (fun i hi e=>by omega)⟩
        simp only
        rw [hlen,←HT.out]
        exact (HO3.out.keep hkC (fun i hi _ hs=>by simp only [World.size_alloc] at hi;omega)).sl (fun g hg ha=>by have:=hAv g ha;simp only [World.size_alloc] at hg;omega)
     | true =>
       have hE:sayE ⟨call,4,since,cen,ep,name,ver,ans⟩ a=8:=by simp [sayE,h0,h15,hst2,hbn]
       have hS:saySR ⟨call,4,since,cen,ep,name,ver,ans⟩ a=⟨call,4,since,cen,ep,name,ver,ans⟩:=by unfold saySR;rw [hE];simp
       rw [hE,hS]
       clear hE hS
       go_enter Tryz.func107,Tryz.ntmps107
       go_wp2_with (go_at_call 129;refine (HT.out _ _ _).mono ?_;rintro e1 w1 ⟨rfl,rfl⟩;first | rw [hbe] | rw [hbt])
       refine bodyPost_ret (v:=.tuple #[.agg #[.int .i64 (call),.int .i64 (4),.int .i64 (since),.int .i64 (cen),.int .i64 (ep),.string (name),.int .i64 (ver),.slice A ans.length c],.int .i64 8]) (by simp [results,Tryz.results107,go_sem] <;> omega) rfl ⟨A,c,rfl,H.out.same (((Keep.refl _ w).alloc _).alloc _),((Keep.refl _ w).alloc _).alloc _⟩
    ·have ghst4:(st == (4:Int))=false:=by simpa using hst4
     have hE:sayE ⟨call,st,since,cen,ep,name,ver,ans⟩ a=8:=by simp [sayE,h0,h15,hst2,hst4]
     have hS:saySR ⟨call,st,since,cen,ep,name,ver,ans⟩ a=⟨call,st,since,cen,ep,name,ver,ans⟩:=by unfold saySR;rw [hE];simp
     rw [hE,hS]
     clear hE hS
     go_enter Tryz.func107,Tryz.ntmps107
     go_wp2_with (go_at_call 129;refine (HT.out _ _ _).mono ?_;rintro e1 w1 ⟨rfl,rfl⟩;first | rw [hbe] | rw [hbt])
     refine bodyPost_ret (v:=.tuple #[.agg #[.int .i64 (call),.int .i64 (st),.int .i64 (since),.int .i64 (cen),.int .i64 (ep),.string (name),.int .i64 (ver),.slice A ans.length c],.int .i64 8]) (by simp [results,Tryz.results107,go_sem] <;> omega) rfl ⟨A,c,rfl,H.out.same (((Keep.refl _ w).alloc _).alloc _),((Keep.refl _ w).alloc _).alloc _⟩
end
structure OkL (s:CL):Prop where
 call:i64ok s.call
 st:i64ok s.st
 since:i64ok s.since
 cen:i64ok s.cen
 ep:i64ok s.ep
 name:s.name.size≤40
 ver:i64ok s.ver
 n:s.ans.length≤200
 el:∀ x∈s.ans,i64ok x
def encCL (s:CL):List UInt8:=encI s.call++encI s.st++encI s.since++encI s.cen++encI s.ep++encD s.name.data.toList++encI s.ver++encL s.ans
def MarPost (w:World) (bs:List UInt8) (e:Ending) (w':World):Prop :=
 ∃ g,e=.returned (.slice (some ⟨g,0,none⟩) bs.length bs.length)∧w.heap.size≤g∧Blk w' g 5 (bcells bs).toArray∧Same w w'
structure MS (w w1:World) (wb:Nat) (r:Option Nat) (A:Option Addr) (c:Nat) (bs:List UInt8):Prop where
 wr:Wr w1 wb r A c bs
 same:Same w w1
 r0:∀ g,r=some g→w.heap.size≤g
 wb0:w.heap.size≤wb
theorem MS.next {w w1 w2:World} {wb:Nat} {r r2:Option Nat} {A A2:Option Addr} {c c2:Nat} {bs bs2:List UInt8} (h:MS w w1 wb r A c bs) (hW:Wr w2 wb r2 A2 c2 bs2)
 (hK:Keep (fun i=>i=wb∨some i=r) w1 w2) (hg:∀ g,r2=some g→r=some g∨w1.heap.size≤g):MS w w2 wb r2 A2 c2 bs2:=by
 refine ⟨hW,h.same.trans hK (fun i hi hs=>?_),fun g e=>?_,h.wb0⟩
 ·rcases hs with hs | hs
  ·have:=h.wb0;omega
  ·have:=h.r0 i hs.symm;omega
 ·rcases hg g e with e | e
  ·exact h.r0 g e
  ·have:=h.same.size;omega
theorem encD_le' {b:List UInt8} (h:b.length≤1000000):(encD b).length≤b.length+10:=by
 have:=encI_le (n:=(b.length:Int)) ⟨by omega,by omega⟩
 simp only [encD,List.length_append]
 omega
theorem encL_le' {l:List Int} (h:l.length≤1000000) (he:∀ x∈l,i64ok x):(encL l).length≤l.length * 10+10:=by
 have:=encI_le (n:=(l.length:Int)) ⟨by omega,by omega⟩
 have h2:=encIs_le l he
 simp only [encL,List.length_append]
 omega
theorem encCL_le {s:CL} (h:OkL s):(encCL s).length≤3000:=by
 have h1:=encI_le h.call
 have h2:=encI_le h.st
 have h3:=encI_le h.since
 have h4:=encI_le h.cen
 have h5:=encI_le h.ep
 have h6:=encI_le h.ver
 have hn:=h.name
 have ha:=h.n
 have e:s.name.data.toList.length=s.name.size:=Array.length_toList
 have h7:=encD_le' (b:=s.name.data.toList) (by omega)
 have h8:=encL_le' (l:=s.ans) (by omega) h.el
 simp only [encCL,List.length_append]
 omega
set_option maxHeartbeats 8000000 in
set_option maxRecDepth 100000 in
theorem marshal_any (w:World) (lb:Nat) (r:Option Nat) (A:Option Addr) (c:Nat) (s:CL) (h:LineAt w lb r A c s) (hok:OkL s):Calls Tryz.prog 76 #[.pointer (some ⟨lb,0,none⟩)] w (MarPost w (encCL s)):=by
 have hlt:=h.top.lt
 have HLE:=hid (encCL_le hok)
 have HA:=hid h
 have HEN:=hid (show encCL s=([]:List UInt8)++encI s.call++encI s.st++encI s.since++encI s.cen++encI s.ep++encD s.name.data.toList++encI s.ver++encL s.ans by simp [encCL])
 have hlen:(encI s.call).length+(encI s.st).length+(encI s.since).length+(encI s.cen).length+(encI s.ep).length+(encD s.name.data.toList).length+(encI s.ver).length+(encL s.ans).length≤3000:=by
  have:=encCL_le hok
  simp only [encCL,List.length_append] at this
  omega
 have HSL:=hid h.sl
 obtain ⟨k1,k2,k3,k4,k5,k6,k7,k8,k9⟩:=hok
 obtain ⟨call,st,since,cen,ep,name,ver,ans⟩:=s
 simp only at k1 k2 k3 k4 k5 k6 k7 k8 k9 hlen
 have HEL:=hid k9
 have HLN:=hid hlen
 clear k9 h
 have HC0:Hid (∀ W,Same w W→W.cell? ⟨lb,0,none⟩=some (.int .i64 call)∧W.cell? ⟨lb,1,none⟩=some (.int .i64 st)∧W.cell? ⟨lb,2,none⟩=some (.int .i64 since)∧W.cell? ⟨lb,3,none⟩=some (.int .i64 cen) ∧
  W.cell? ⟨lb,4,none⟩=some (.int .i64 ep)∧W.cell? ⟨lb,5,none⟩=some (.string name)∧W.cell? ⟨lb,6,none⟩=some (.int .i64 ver)∧W.cell? ⟨lb,7,none⟩=some (.slice A ans.length c)):=hid (fun W hk=>(HA.out.same hk).cs)
 have HS0:Hid (MS w (w.alloc (.cells #[.slice none 0 0] 157)) w.heap.size none none 0 []) :=
  hid ⟨⟨Blk.made w 157 #[.slice none 0 0],Own.nil _ 0 5 1,rfl,fun g e=>by cases e⟩,(Keep.refl _ w).alloc _,fun g e=>by (cases e),Nat.le_refl _⟩
 obtain ⟨c0,_,_,_,_,_,_,_⟩:=HC0.out _ HS0.out.same
 have HC:=hid (wInt_any _ w.heap.size none none 0 [] HS0.out.wr (by simp) call k1.1 k1.2)
 clear hlen
 go_enter Tryz.func76,Tryz.ntmps76
 go_wp2_with fail
 refine HC.out.mono ?_
 rintro e w1 ⟨r1,A1,c1',rfl,hW1,hK1,hg1⟩
 have HS1:=hid (HS0.out.next hW1 hK1 hg1)
 obtain ⟨_,d1,_,_,_,_,_,_⟩:=HC0.out _ HS1.out.same
 have HCn:=hid (wInt_any _ w.heap.size r1 A1 c1' _ hW1 (by have:=HLN.out;simp only [List.length_append,List.length_nil];omega) st k2.1 k2.2)
 clear HC
 have HC:=HCn
 clear HCn hW1 hK1 hg1 HS0
 go_wp2_with fail
 refine HC.out.mono ?_
 rintro e w2 ⟨r2,A2,c2',rfl,hW2,hK2,hg2⟩
 have HS2:=hid (HS1.out.next hW2 hK2 hg2)
 obtain ⟨_,_,d2,_,_,_,_,_⟩:=HC0.out _ HS2.out.same
 have HCn:=hid (wInt_any _ w.heap.size r2 A2 c2' _ hW2 (by have:=HLN.out;simp only [List.length_append,List.length_nil];omega) since k3.1 k3.2)
 clear HC
 have HC:=HCn
 clear HCn hW2 hK2 hg2 HS1
 go_wp2_with fail
 refine HC.out.mono ?_
 rintro e w3 ⟨r3,A3,c3',rfl,hW3,hK3,hg3⟩
 have HS3:=hid (HS2.out.next hW3 hK3 hg3)
 obtain ⟨_,_,_,d3,_,_,_,_⟩:=HC0.out _ HS3.out.same
 have HCn:=hid (wInt_any _ w.heap.size r3 A3 c3' _ hW3 (by have:=HLN.out;simp only [List.length_append,List.length_nil];omega) cen k4.1 k4.2)
 clear HC
 have HC:=HCn
 clear HCn hW3 hK3 hg3 HS2
 go_wp2_with fail
 refine HC.out.mono ?_
 rintro e w4 ⟨r4,A4,c4',rfl,hW4,hK4,hg4⟩
 have HS4:=hid (HS3.out.next hW4 hK4 hg4)
 obtain ⟨_,_,_,_,d4,_,_,_⟩:=HC0.out _ HS4.out.same
 have HCn:=hid (wInt_any _ w.heap.size r4 A4 c4' _ hW4 (by have:=HLN.out;simp only [List.length_append,List.length_nil];omega) ep k5.1 k5.2)
 clear HC
 have HC:=HCn
 clear HCn hW4 hK4 hg4 HS3
 go_wp2_with fail
 refine HC.out.mono ?_
 rintro e w5 ⟨r5,A5,c5',rfl,hW5,hK5,hg5⟩
 have HS5:=hid (HS4.out.next hW5 hK5 hg5)
 obtain ⟨_,_,_,_,_,d5,_,_⟩:=HC0.out _ HS5.out.same
 have HCn:=hid (wString_any _ w.heap.size r5 A5 c5' _ hW5 (by have:=HLN.out;simp only [List.length_append,List.length_nil];omega) name (by omega))
 clear HC
 have HC:=HCn
 clear HCn hW5 hK5 hg5 HS4
 go_wp2_with fail
 refine HC.out.mono ?_
 rintro e w6 ⟨r6,A6,c6',rfl,hW6,hK6,hg6⟩
 have HS6:=hid (HS5.out.next hW6 hK6 hg6)
 obtain ⟨_,_,_,_,_,_,d6,_⟩:=HC0.out _ HS6.out.same
 have HCn:=hid (wInt_any _ w.heap.size r6 A6 c6' _ hW6 (by have:=HLN.out;simp only [List.length_append,List.length_nil];omega) ver k7.1 k7.2)
 clear HC
 have HC:=HCn
 clear HCn hW6 hK6 hg6 HS5
 go_wp2_with fail
 refine HC.out.mono ?_
 rintro e w7 ⟨r7,A7,c7',rfl,hW7,hK7,hg7⟩
 have HS7:=hid (HS6.out.next hW7 hK7 hg7)
 obtain ⟨_,_,_,_,_,_,_,d7⟩:=HC0.out _ HS7.out.same
 have HCn:=hid (wInts_any _ w.heap.size r7 A7 c7' _ hW7 (by have:=HLN.out;simp only [List.length_append,List.length_nil];omega) A ans.length c ans (((HSL.out.wide (Av':=fun _=>False) (fun _ _ f=>f.elim)).old.same HS7.out.same).wide (fun i _ hs=>by rcases hs with rfl | hs;exact Nat.le_refl _;exact HS7.out.r0 i hs.symm)) (by omega) HEL.out)
 clear HC
 have HC:=HCn
 clear HCn hW7 hK7 hg7 HS6
 go_wp2_with fail
 refine HC.out.mono ?_
 rintro e w8 ⟨r8,A8,c8',rfl,hW8,hK8,hg8⟩
 have HS8:=hid (HS7.out.next hW8 hK8 hg8)
 have HCn:=hid (encoded_any _ w.heap.size r8 A8 c8' _ hW8 (by have:=HLN.out;simp only [List.length_append,List.length_nil];omega))
 clear HC
 have HC:=HCn
 clear HCn hW8 hK8 hg8 HS7
 rw [←HEN.out] at HC
 go_wp2_with fail
 refine HC.out.mono ?_
 rintro e w9 ⟨rfl,hB9,hK9⟩
 have hz:=HS8.out.same.size
 have HK9:=hid (HS8.out.same.then hK9)
 have HB9:=hid hB9
 clear hB9 hK9
 go_wp2
 go_ret
 exact ⟨_,rfl,hz,HB9.out,HK9.out⟩
end Go.Proofs.YtbjddfiledoaoaaGreat

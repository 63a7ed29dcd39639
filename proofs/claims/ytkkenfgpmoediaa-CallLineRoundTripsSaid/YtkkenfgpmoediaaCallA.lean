import Derived.Test.YtkkenfgpmoediaaWireI
namespace Go.Proofs.Ytkkenfgpmoediaa
open Go.RowKit

/-! ## A caller's line, in plain Lean -/
structure CL where
  call : Int
  st : Int
  since : Int
  cen : Int
  ep : Int
  name : ByteArray
  ver : Int
  ans : List Int
def vN (n lo : Int) : Bool := decide (lo ≤ n) && decide (n ≤ 1099511627776)
def vC (c : Int) : Bool := decide (0 ≤ c) && decide (c < 9)
def vP (z : Nat) (v : Int) : Bool := decide (1 ≤ z) && decide (z ≤ 40) && decide (1 ≤ v) && decide (v ≤ 1048576)
def assignE (s : CL) (c e t : Int) : Int := if vC c = true ∧ vN e 1 = true ∧ vN t 0 = true then (if e ≤ s.ep then 9 else if s.st = 5 then 8 else 0) else 1
def assignS (s : CL) (c e t : Int) : CL := if assignE s c e t = 0 then { s with st := if s.st = 2 then 1 else if s.st = 4 then 3 else s.st, since := if s.st = 2 ∨ s.st = 4 then t else s.since, cen := c, ep := e } else s
def acceptE (s : CL) (e : Int) (nm : ByteArray) (v : Int) : Int := if vN e 1 = true ∧ vP nm.size v = true then (if ¬ e = s.ep then 9 else if s.st = 5 then 8 else if (s.name.toList == []) = false ∧ ((s.name.toList == nm.toList) = false ∨ ¬ s.ver = v) then 10 else 0) else 1
def acceptS (s : CL) (e : Int) (nm : ByteArray) (v : Int) : CL := if acceptE s e nm v = 0 then { s with st := if s.st = 1 then 2 else s.st, since := if s.st = 1 then -1 else s.since, name := nm, ver := v } else s
def sayE (s : CL) (a : Int) : Int := if a < 0 ∨ 15 < a then 1 else if (¬ s.st = 2 ∧ ¬ s.st = 4) ∨ (s.name.toList == []) = true then 8 else if 200 ≤ s.ans.length then 3 else 0
def sayS (s : CL) (a : Int) : CL := if sayE s a = 0 then { s with st := 2, ans := s.ans ++ [a] } else s
def hangE (s : CL) (t : Int) : Int := if vN t 0 = true then (if s.st = 3 ∨ s.st = 5 then 8 else 0) else 1
def hangS (s : CL) (t : Int) : CL := if hangE s t = 0 then { s with st := 3, since := if s.st = 1 then s.since else t } else s
def backE (s : CL) (e : Int) : Int := if vN e 1 = true then (if ¬ e = s.ep then 9 else if s.st = 3 then 0 else 8) else 1
def backS (s : CL) (e : Int) : CL := if backE s e = 0 then { s with st := 4, since := -1 } else s
def closeE (s : CL) (e : Int) : Int := if vN e 1 = true then (if ¬ e = s.ep then 9 else if s.st = 5 then 8 else 0) else 1
def closeS (s : CL) (e : Int) : CL := if closeE s e = 0 then { s with st := 5, since := -1 } else s

/-! ## A line in memory -/
def CL.cells (s : CL) (A : Option Addr) (c : Nat) : List Value := [.int .i64 s.call, .int .i64 s.st, .int .i64 s.since, .int .i64 s.cen, .int .i64 s.ep, .string s.name, .int .i64 s.ver, .slice A s.ans.length c]
def icells (l : List Int) : List Value := l.map (Value.int .i64)
structure LineAt (w : World) (lb : Nat) (r : Option Nat) (A : Option Addr) (c : Nat) (s : CL) : Prop where
  top : Blk w lb 54 (s.cells A c).toArray
  row : Own w 0 3 1 (.slice A s.ans.length c) s.ans.length (icells s.ans)
  at_ : A.map (·.block) = r
  ne : ∀ g, r = some g → g ≠ lb
def LPost (w : World) (lb : Nat) (r : Option Nat) (s : CL) (v : Value) (e : Ending) (w' : World) : Prop :=
  ∃ r' A' c', e = .returned v ∧ LineAt w' lb r' A' c' s ∧ Keep (fun i => i = lb ∨ some i = r) w w' ∧ (∀ g, r' = some g → r = some g ∨ w.heap.size ≤ g)
section
variable {w w' : World} {S : Nat → Prop} {lb : Nat} {r : Option Nat} {A : Option Addr} {c : Nat} {s s' : CL}
theorem LineAt.ownBlock (h : LineAt w lb r A c s) : (Value.slice A s.ans.length c).ownBlock = r := by
  rw [← h.at_]
  cases A <;> rfl
theorem LineAt.lt (h : LineAt w lb r A c s) (g : Nat) (e : r = some g) : g < w.heap.size := h.row.lt g (by rw [h.ownBlock]; exact e)
theorem LineAt.keep (h : LineAt w lb r A c s) (hk : Keep S w w') (h1 : ¬ S lb) (h2 : ∀ g, r = some g → ¬ S g) : LineAt w' lb r A c s :=
  ⟨h.top.keep hk h1, h.row.keepB hk (fun g e => h2 g (by rw [← h.ownBlock]; exact e)), h.at_, h.ne⟩
theorem LineAt.same (h : LineAt w lb r A c s) (hk : Same w w') : LineAt w' lb r A c s := h.keep hk (fun f => f) (fun _ _ f => f)
theorem LineAt.cs (h : LineAt w lb r A c s) : w.cell? ⟨lb, 0, none⟩ = some (.int .i64 s.call) ∧ w.cell? ⟨lb, 1, none⟩ = some (.int .i64 s.st) ∧ w.cell? ⟨lb, 2, none⟩ = some (.int .i64 s.since) ∧ w.cell? ⟨lb, 3, none⟩ = some (.int .i64 s.cen) ∧
    w.cell? ⟨lb, 4, none⟩ = some (.int .i64 s.ep) ∧ w.cell? ⟨lb, 5, none⟩ = some (.string s.name) ∧ w.cell? ⟨lb, 6, none⟩ = some (.int .i64 s.ver) ∧ w.cell? ⟨lb, 7, none⟩ = some (.slice A s.ans.length c) :=
  ⟨h.top.at_ 0, h.top.at_ 1, h.top.at_ 2, h.top.at_ 3, h.top.at_ 4, h.top.at_ 5, h.top.at_ 6, h.top.at_ 7⟩
theorem LineAt.sl (h : LineAt w lb r A c s) : Sl w (fun i => i = lb ∨ ¬ some i = r) 1 A s.ans.length (icells s.ans) := by
  have := h.row.sl (Av := fun _ => False) (fun _ _ f => f)
  refine ⟨this.len, fun hn => ?_⟩
  obtain ⟨b, off, e, h1, _, h3⟩ := this.at_ hn
  have hr : r = some b := by rw [← h.at_, e]; rfl
  exact ⟨b, off, e, h1, fun hs => by
    rcases hs with hs | hs
    · exact h.ne b hr hs
    · exact hs hr.symm, h3⟩
theorem LPost.put {v : Value} (h : LineAt w lb r A c s) (hb : Blk w' lb 54 (s'.cells A c).toArray) (hk : Keep (· = lb) w w') (ha : s'.ans = s.ans) : LPost w lb r s' v (.returned v) w' := by
  refine ⟨r, A, c, rfl, ⟨hb, ?_, h.at_, h.ne⟩, hk.wide (fun _ _ e => .inl e), fun g e => .inl e⟩
  rw [ha]
  exact h.row.keepB hk (fun g e => h.ne g (by rw [← h.ownBlock]; exact e))
theorem LPost.self {v : Value} (h : LineAt w lb r A c s) : LPost w lb r s v (.returned v) w := ⟨r, A, c, rfl, h, Keep.refl _ _, fun _g e => .inl e⟩
end

/-! ## The small functions -/
def BPost (w : World) (v : Value) (e : Ending) (w' : World) : Prop := e = .returned v ∧ w = w'
theorem number_any (w : World) (n lo : Int) : Calls Try.prog 24 #[.int .i64 n, .int .i64 lo] w (BPost w (.bool (vN n lo))) := by
  by_cases h1 : lo ≤ n
  all_goals
    go_enter Try.func24, Try.ntmps24
    go_wp2
    go_ret
    exact ⟨by simp [vN, h1] <;> (intro; omega), rfl⟩
theorem validTick_any (w : World) (n : Int) : Calls Try.prog 23 #[.int .i64 n] w (BPost w (.bool (vN n 0))) := by
  by_cases h1 : 0 ≤ n
  all_goals
    go_enter Try.func23, Try.ntmps23
    go_wp2
    go_ret
    exact ⟨by simp [vN, h1] <;> (intro; omega), rfl⟩
theorem validEpoch_any (w : World) (n : Int) : Calls Try.prog 36 #[.int .i64 n] w (BPost w (.bool (vN n 1))) := by
  by_cases h1 : 1 ≤ n
  all_goals
    go_enter Try.func36, Try.ntmps36
    go_wp2
    go_ret
    exact ⟨by simp [vN, h1] <;> (intro; omega), rfl⟩
theorem validCall_any (w : World) (n : Int) : Calls Try.prog 22 #[.int .i64 n] w (BPost w (.bool (vN n 1))) := by
  by_cases h1 : 1 ≤ n
  all_goals
    go_enter Try.func22, Try.ntmps22
    go_wp2
    go_ret
    exact ⟨by simp [vN, h1] <;> (intro; omega), rfl⟩
theorem validCentre_any (w : World) (n : Int) : Calls Try.prog 44 #[.int .i64 n] w (BPost w (.bool (vC n))) := by
  by_cases h1 : 0 ≤ n
  all_goals
    go_enter Try.func44, Try.ntmps44
    go_wp2
    go_ret
    exact ⟨by simp [vC, h1] <;> (intro; omega), rfl⟩
theorem validProtocol_any (w : World) (s : ByteArray) (v : Int) : Calls Try.prog 37 #[.string s, .int .i64 v] w (BPost w (.bool (vP s.size v))) := by
  generalize hz : s.size = z
  by_cases h1 : (1 : Int) ≤ (z : Int)
  · by_cases h2 : (z : Int) ≤ 40
    · by_cases h3 : 1 ≤ v
      all_goals
        go_enter Try.func37, Try.ntmps37
        go_wp2
        go_ret
        exact ⟨by have e1 : 1 ≤ z := by omega
                  have e2 : z ≤ 40 := by omega
                  simp [vP, e1, e2, h3] <;> (intro; omega), rfl⟩
    · go_enter Try.func37, Try.ntmps37
      go_wp2
      go_ret
      exact ⟨by have e2 : ¬ z ≤ 40 := by omega
                simp [vP, e2], rfl⟩
  · go_enter Try.func37, Try.ntmps37
    go_wp2
    go_ret
    exact ⟨by have e2 : ¬ 1 ≤ z := by omega
              simp [vP, e2], rfl⟩
section
variable (w : World) (lb : Nat) (r : Option Nat) (A : Option Addr) (c : Nat) (s : CL) (h : LineAt w lb r A c s)
include h
theorem state_any : Calls Try.prog 13 #[.pointer (some ⟨lb, 0, none⟩)] w (BPost w (.int .i64 s.st)) := by
  obtain ⟨_, c1, _⟩ := h.cs
  have hlt := h.top.lt
  clear h
  go_enter Try.func13, Try.ntmps13
  go_wp2
  go_ret
  exact ⟨rfl, rfl⟩
theorem owner_any : Calls Try.prog 10 #[.pointer (some ⟨lb, 0, none⟩)] w (fun e w' => e = .returned (.tuple #[.int .i64 s.cen, .int .i64 s.ep]) ∧ Same w w') := by
  obtain ⟨_, _, _, c3, c4, _⟩ := h.cs
  have hlt := h.top.lt
  clear h
  go_enter Try.func10, Try.ntmps10
  go_wp2
  go_quiet (fail)
  go_wp2
  go_ret2
  exact ⟨rfl, (Keep.refl _ w).drewN _⟩
theorem checkOwner_any (e : Int) : Calls Try.prog 38 #[.pointer (some ⟨lb, 0, none⟩), .int .i64 e] w (BPost w (.int .i64 (if vN e 1 = true then (if e = s.ep then 0 else 9) else 1))) := by
  obtain ⟨_, _, _, c3, c4, _⟩ := h.cs
  have hlt := h.top.lt
  have HV := hid (validEpoch_any w e)
  clear h
  generalize s.ep = ep at *
  obtain ⟨b, hb⟩ : ∃ b, vN e 1 = b := ⟨_, rfl⟩
  rw [hb] at HV ⊢
  cases b
  · go_enter Try.func38, Try.ntmps38
    go_wp2_with fail
    refine HV.out.mono ?_
    rintro e w1 ⟨rfl, rfl⟩
    go_wp2
    go_ret
    exact ⟨rfl, rfl⟩
  · by_cases he : e = ep
    · subst he
      go_enter Try.func38, Try.ntmps38
      go_wp2_with fail
      refine HV.out.mono ?_
      rintro e w1 ⟨rfl, rfl⟩
      go_wp2
      go_ret
      exact ⟨by simp, rfl⟩
    · have hne : (e == ep) = false := by simpa using he
      go_enter Try.func38, Try.ntmps38
      go_wp2_with fail
      refine HV.out.mono ?_
      rintro e w1 ⟨rfl, rfl⟩
      go_wp2
      go_ret
      exact ⟨by simp, rfl⟩
end
end Go.Proofs.Ytkkenfgpmoediaa

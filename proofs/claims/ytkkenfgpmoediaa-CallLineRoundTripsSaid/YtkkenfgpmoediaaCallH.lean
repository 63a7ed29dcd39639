import Derived.Test.YtkkenfgpmoediaaCallG
namespace Go.Proofs.Ytkkenfgpmoediaa
open Go.RowKit

/-! ## What an operation does to a line, in plain Lean -/
theorem vN_iff {n lo : Int} : vN n lo = true ↔ lo ≤ n ∧ n ≤ 1099511627776 := by simp [vN]
theorem vC_iff {n : Int} : vC n = true ↔ 0 ≤ n ∧ n < 9 := by simp [vC]
theorem vP_iff {z : Nat} {v : Int} : vP z v = true ↔ (1 ≤ z ∧ z ≤ 40) ∧ 1 ≤ v ∧ v ≤ 1048576 := by simp [vP]; omega
theorem assign_ok {s : CL} {c e t : Int} (h : assignE s c e t = 0) : (0 ≤ c ∧ c < 9) ∧ (1 ≤ e ∧ e ≤ 1099511627776) ∧ (0 ≤ t ∧ t ≤ 1099511627776) ∧ s.ep < e ∧ ¬ s.st = 5 := by
  unfold assignE at h
  by_cases hv : vC c = true ∧ vN e 1 = true ∧ vN t 0 = true
  · rw [if_pos hv] at h
    rw [vC_iff, vN_iff, vN_iff] at hv
    by_cases h1 : e ≤ s.ep
    · rw [if_pos h1] at h; omega
    · rw [if_neg h1] at h
      by_cases h2 : s.st = 5
      · rw [if_pos h2] at h; omega
      · exact ⟨hv.1, hv.2.1, hv.2.2, by omega, h2⟩
  · rw [if_neg hv] at h; omega
theorem accept_ok {s : CL} {e : Int} {nm : ByteArray} {v : Int} (h : acceptE s e nm v = 0) : (e = s.ep ∧ 1 ≤ e ∧ e ≤ 1099511627776) ∧ ¬ s.st = 5 ∧ (1 ≤ nm.size ∧ nm.size ≤ 40) ∧ 1 ≤ v ∧ v ≤ 1048576 := by
  unfold acceptE at h
  by_cases hv : vN e 1 = true ∧ vP nm.size v = true
  · rw [if_pos hv] at h
    rw [vN_iff, vP_iff] at hv
    by_cases h1 : e = s.ep
    · rw [if_neg (by simpa using h1)] at h
      by_cases h2 : s.st = 5
      · rw [if_pos h2] at h; omega
      · exact ⟨⟨h1, hv.1⟩, h2, hv.2⟩
    · rw [if_pos h1] at h; omega
  · rw [if_neg hv] at h; omega
theorem say_ok {s : CL} {a : Int} (h : sayE s a = 0) : (0 ≤ a ∧ a ≤ 15) ∧ (s.st = 2 ∨ s.st = 4) ∧ s.ans.length < 200 := by
  unfold sayE at h
  by_cases h1 : a < 0 ∨ 15 < a
  · rw [if_pos h1] at h; omega
  · rw [if_neg h1] at h
    by_cases h2 : (¬ s.st = 2 ∧ ¬ s.st = 4) ∨ (s.name.toList == []) = true
    · rw [if_pos h2] at h; omega
    · rw [if_neg h2] at h
      by_cases h3 : 200 ≤ s.ans.length
      · rw [if_pos h3] at h; omega
      · refine ⟨by omega, ?_, by omega⟩
        by_cases h4 : s.st = 2
        · exact .inl h4
        · by_cases h5 : s.st = 4
          · exact .inr h5
          · exact absurd (.inl ⟨h4, h5⟩) h2
theorem hang_ok {s : CL} {t : Int} (h : hangE s t = 0) : (0 ≤ t ∧ t ≤ 1099511627776) ∧ ¬ s.st = 3 ∧ ¬ s.st = 5 := by
  unfold hangE at h
  by_cases h1 : vN t 0 = true
  · rw [if_pos h1] at h
    rw [vN_iff] at h1
    by_cases h2 : s.st = 3 ∨ s.st = 5
    · rw [if_pos h2] at h; omega
    · exact ⟨h1, by omega, by omega⟩
  · rw [if_neg h1] at h; omega
theorem back_ok {s : CL} {e : Int} (h : backE s e = 0) : e = s.ep ∧ s.st = 3 := by
  unfold backE at h
  by_cases h1 : vN e 1 = true
  · rw [if_pos h1] at h
    by_cases h2 : e = s.ep
    · rw [if_neg (by simpa using h2)] at h
      by_cases h3 : s.st = 3
      · exact ⟨h2, h3⟩
      · rw [if_neg h3] at h; omega
    · rw [if_pos h2] at h; omega
  · rw [if_neg h1] at h; omega
theorem close_ok {s : CL} {e : Int} (h : closeE s e = 0) : e = s.ep ∧ ¬ s.st = 5 := by
  unfold closeE at h
  by_cases h1 : vN e 1 = true
  · rw [if_pos h1] at h
    by_cases h2 : e = s.ep
    · rw [if_neg (by simpa using h2)] at h
      by_cases h3 : s.st = 5
      · rw [if_pos h3] at h; omega
      · exact ⟨h2, h3⟩
    · rw [if_pos h2] at h; omega
  · rw [if_neg h1] at h; omega
/-- What every operation keeps. -/
structure Kept (s s' : CL) : Prop where
  ok : OkL s → OkL s'
  ep : s.ep ≤ s'.ep
  ans : ∃ xs, s'.ans = s.ans ++ xs
  closed : s.st = 5 → s' = s
theorem Kept.refl (s : CL) : Kept s s := ⟨fun h => h, Int.le_refl _, ⟨[], by simp⟩, fun _ => rfl⟩
theorem assign_kept (s : CL) (c e t : Int) : Kept s (assignS s c e t) := by
  unfold assignS
  by_cases h : assignE s c e t = 0
  · rw [if_pos h]
    have hh := assign_ok h
    refine ⟨fun k => ⟨k.call, ?_, ?_, ⟨by simp only; omega, by simp only; omega⟩, ⟨by simp only; omega, by simp only; omega⟩, k.name, k.ver, k.n, k.el⟩, by simp only; omega, ⟨[], by simp⟩, fun h5 => absurd h5 hh.2.2.2.2⟩
    · have := k.st
      simp only
      split
      · exact ⟨by omega, by omega⟩
      · split
        · exact ⟨by omega, by omega⟩
        · exact this
    · have := k.since
      simp only
      split
      · exact ⟨by omega, by omega⟩
      · exact this
  · rw [if_neg h]; exact Kept.refl s
theorem accept_kept (s : CL) (e : Int) (nm : ByteArray) (v : Int) : Kept s (acceptS s e nm v) := by
  unfold acceptS
  by_cases h : acceptE s e nm v = 0
  · rw [if_pos h]
    have hh := accept_ok h
    refine ⟨fun k => ⟨k.call, ?_, ?_, k.cen, k.ep, hh.2.2.1.2, ⟨by simp only; omega, by simp only; omega⟩, k.n, k.el⟩, Int.le_refl _, ⟨[], by simp⟩, fun h5 => absurd h5 hh.2.1⟩
    · have := k.st
      simp only
      split
      · exact ⟨by omega, by omega⟩
      · exact this
    · have := k.since
      simp only
      split
      · exact ⟨by omega, by omega⟩
      · exact this
  · rw [if_neg h]; exact Kept.refl s
theorem say_kept (s : CL) (a : Int) : Kept s (sayS s a) := by
  unfold sayS
  by_cases h : sayE s a = 0
  · rw [if_pos h]
    have hh := say_ok h
    refine ⟨fun k => ⟨k.call, ⟨by simp, by simp⟩, k.since, k.cen, k.ep, k.name, k.ver, by simp; omega, fun x hx => ?_⟩, Int.le_refl _, ⟨[a], rfl⟩, fun h5 => by omega⟩
    simp only [List.mem_append, List.mem_singleton] at hx
    rcases hx with hx | rfl
    · exact k.el x hx
    · exact ⟨by omega, by omega⟩
  · rw [if_neg h]; exact Kept.refl s
theorem hang_kept (s : CL) (t : Int) : Kept s (hangS s t) := by
  unfold hangS
  by_cases h : hangE s t = 0
  · rw [if_pos h]
    have hh := hang_ok h
    refine ⟨fun k => ⟨k.call, ⟨by simp, by simp⟩, ?_, k.cen, k.ep, k.name, k.ver, k.n, k.el⟩, Int.le_refl _, ⟨[], by simp⟩, fun h5 => absurd h5 hh.2.2⟩
    have := k.since
    simp only
    split
    · exact this
    · exact ⟨by omega, by omega⟩
  · rw [if_neg h]; exact Kept.refl s
theorem back_kept (s : CL) (e : Int) : Kept s (backS s e) := by
  unfold backS
  by_cases h : backE s e = 0
  · rw [if_pos h]
    have hh := back_ok h
    exact ⟨fun k => ⟨k.call, ⟨by simp, by simp⟩, ⟨by simp, by simp⟩, k.cen, k.ep, k.name, k.ver, k.n, k.el⟩, Int.le_refl _, ⟨[], by simp⟩, fun h5 => by omega⟩
  · rw [if_neg h]; exact Kept.refl s
theorem close_kept (s : CL) (e : Int) : Kept s (closeS s e) := by
  unfold closeS
  by_cases h : closeE s e = 0
  · rw [if_pos h]
    have hh := close_ok h
    exact ⟨fun k => ⟨k.call, ⟨by simp, by simp⟩, ⟨by simp, by simp⟩, k.cen, k.ep, k.name, k.ver, k.n, k.el⟩, Int.le_refl _, ⟨[], by simp⟩, fun h5 => absurd h5 hh.2⟩
  · rw [if_neg h]; exact Kept.refl s
theorem step_kept (s : CL) (a : LA) : Kept s (stepS s a) := by
  unfold stepS
  split
  · exact assign_kept ..
  · split
    · exact accept_kept ..
    · split
      · exact say_kept ..
      · split
        · exact hang_kept ..
        · split
          · exact back_kept ..
          · split
            · exact close_kept ..
            · exact Kept.refl s
theorem stepM_len (s : CL) (a : LA) (h : s.ans.length ≤ 200) : (stepM s a).ans.length ≤ 200 := by
  have key : ∀ {s' : CL}, (∃ xs, s'.ans = s.ans ++ xs) → s'.ans.length ≤ 200 ∨ True := fun _ => .inr trivial
  clear key
  unfold stepM
  split
  · unfold assignS; split <;> exact h
  · split
    · unfold acceptS; split <;> exact h
    · split
      · unfold saySR
        split
        · rename_i h2
          have := say_ok h2
          simp; omega
        · exact h
      · split
        · unfold hangS; split <;> exact h
        · split
          · unfold backS; split <;> exact h
          · split
            · unfold closeS; split <;> exact h
            · exact h
theorem stale_accept {s : CL} {e : Int} {nm : ByteArray} {v : Int} (h1 : 1 ≤ e) (h2 : e ≤ 1099511627776) (hn : ¬ e = s.ep) (hp : vP nm.size v = true) : acceptE s e nm v = 9 ∧ acceptS s e nm v = s := by
  have hE : acceptE s e nm v = 9 := by
    unfold acceptE
    rw [if_pos ⟨vN_iff.2 ⟨h1, h2⟩, hp⟩, if_pos hn]
  exact ⟨hE, by unfold acceptS; rw [hE]; rfl⟩
theorem stale_back {s : CL} {e : Int} (h1 : 1 ≤ e) (h2 : e ≤ 1099511627776) (hn : ¬ e = s.ep) : backE s e = 9 ∧ backS s e = s := by
  have hE : backE s e = 9 := by
    unfold backE
    rw [if_pos (vN_iff.2 ⟨h1, h2⟩), if_pos hn]
  exact ⟨hE, by unfold backS; rw [hE]; rfl⟩
theorem stale_close {s : CL} {e : Int} (h1 : 1 ≤ e) (h2 : e ≤ 1099511627776) (hn : ¬ e = s.ep) : closeE s e = 9 ∧ closeS s e = s := by
  have hE : closeE s e = 9 := by
    unfold closeE
    rw [if_pos (vN_iff.2 ⟨h1, h2⟩), if_pos hn]
  exact ⟨hE, by unfold closeS; rw [hE]; rfl⟩

/-! ## A line that the call made -/
def LS (w w1 : World) (lb : Nat) (s : CL) : Prop := ∃ r A c, LineAt w1 lb r A c s ∧ Same w w1 ∧ w.heap.size ≤ lb ∧ ∀ g, r = some g → w.heap.size ≤ g
section
variable {w w1 w2 : World} {lb : Nat} {s s' : CL}
theorem LS.next {r : Option Nat} {A : Option Addr} {c : Nat} {v : Value} {e : Ending} (_h : LineAt w1 lb r A c s) (hk : Same w w1) (hl : w.heap.size ≤ lb) (hr : ∀ g, r = some g → w.heap.size ≤ g) (hp : LPost w1 lb r s' v e w2) : e = .returned v ∧ LS w w2 lb s' := by
  obtain ⟨r2, A2, c2, rfl, h2, hK, hg⟩ := hp
  refine ⟨rfl, r2, A2, c2, h2, hk.trans hK (fun i hi hs => ?_), hl, fun g e => ?_⟩
  · rcases hs with hs | hs
    · omega
    · have := hr i hs.symm; omega
  · rcases hg g e with e | e
    · exact hr g e
    · have := hk.size; omega
theorem LS.op {f : Nat} {args : Array Value} {v : Value} (h : LS w w1 lb s) (hc : ∀ r A c, LineAt w1 lb r A c s → Calls Try.prog f args w1 (LPost w1 lb r s' v)) : Calls Try.prog f args w1 fun e w2 => e = .returned v ∧ LS w w2 lb s' := by
  obtain ⟨r, A, c, h1, h2, h3, h4⟩ := h
  exact (hc r A c h1).mono fun e w2 hp => LS.next h1 h2 h3 h4 hp
theorem LS.same (h : LS w w1 lb s) (hk : Same w1 w2) : LS w w2 lb s := by
  obtain ⟨r, A, c, h1, h2, h3, h4⟩ := h
  exact ⟨r, A, c, h1.same hk, h2.then hk, h3, h4⟩
theorem LS.kept (h : LS w w1 lb s) : Same w w1 := by
  obtain ⟨r, A, c, h1, h2, h3, h4⟩ := h
  exact h2
theorem LS.state (h : LS w w1 lb s) : Calls Try.prog 13 #[.pointer (some ⟨lb, 0, none⟩)] w1 (BPost w1 (.int .i64 s.st)) := by
  obtain ⟨r, A, c, h1, _⟩ := h
  exact state_any _ _ _ _ _ _ h1
theorem LS.sinceC (h : LS w w1 lb s) : Calls Try.prog 21 #[.pointer (some ⟨lb, 0, none⟩)] w1 (BPost w1 (.int .i64 s.since)) := by
  obtain ⟨r, A, c, h1, _⟩ := h
  exact since_any _ _ _ _ _ _ h1
theorem LS.owner (h : LS w w1 lb s) : Calls Try.prog 10 #[.pointer (some ⟨lb, 0, none⟩)] w1 (fun e w' => e = .returned (.tuple #[.int .i64 s.cen, .int .i64 s.ep]) ∧ Same w1 w') := by
  obtain ⟨r, A, c, h1, _⟩ := h
  exact owner_any _ _ _ _ _ _ h1
theorem LS.answers (h : LS w w1 lb s) (hl : s.ans.length ≤ 1000) : Calls Try.prog 11 #[.pointer (some ⟨lb, 0, none⟩)] w1 (CopyPost w1 s.ans) := by
  obtain ⟨r, A, c, h1, _⟩ := h
  exact answers_any _ _ _ _ _ _ h1 hl
theorem LS.marshal (h : LS w w1 lb s) (hok : OkL s) : Calls Try.prog 12 #[.pointer (some ⟨lb, 0, none⟩)] w1 (MarPost w1 (encCL s)) := by
  obtain ⟨r, A, c, h1, _⟩ := h
  exact marshal_any _ _ _ _ _ _ h1 hok
end
end Go.Proofs.Ytkkenfgpmoediaa

import Derived.Test.YtkkenfgpmoediaaCallJ
namespace Go.Proofs.Ytkkenfgpmoediaa
open Go.RowKit

/-! ## RoundTrips, in plain Lean: consistent lines, lines that differ in 'since' alone -/
structure VL (s : CL) : Prop where
  call : 1 ≤ s.call ∧ s.call ≤ 1099511627776
  st : 1 ≤ s.st ∧ s.st ≤ 5
  wait : s.st = 1 ∨ s.st = 3 → 0 ≤ s.since ∧ s.since ≤ 1099511627776
  busy : ¬ (s.st = 1 ∨ s.st = 3) → s.since = -1
  own : ((0 ≤ s.cen ∧ s.cen < 9) ∧ (1 ≤ s.ep ∧ s.ep ≤ 1099511627776)) ∨ (s.cen = -1 ∧ s.ep = 0 ∧ (s.st = 1 ∨ s.st = 3))
  prot : ((1 ≤ s.name.size ∧ s.name.size ≤ 40) ∧ 1 ≤ s.ver ∧ s.ver ≤ 1048576) ∨ (s.name = ⟨#[]⟩ ∧ s.ver = 0 ∧ s.ans = [])
  n : s.ans.length ≤ 200
  el : ∀ x ∈ s.ans, 0 ≤ x ∧ x ≤ 15
theorem lin0_vl : VL lin0 := ⟨by decide, by decide, by decide, by decide, .inr ⟨rfl, rfl, .inl rfl⟩, .inr ⟨rfl, rfl, rfl⟩, by decide, by simp [lin0]⟩
theorem assign_vl {s : CL} (h : VL s) (c e t : Int) : VL (assignS s c e t) := by
  unfold assignS
  by_cases hE : assignE s c e t = 0
  · rw [if_pos hE]
    obtain ⟨h1, h2, h3, h4, h5⟩ := assign_ok hE
    have hst := h.st
    refine ⟨h.call, ?_, ?_, ?_, .inl ⟨h1, h2⟩, h.prot, h.n, h.el⟩
    · simp only; split
      · omega
      · split <;> omega
    · intro hw
      simp only at hw ⊢
      by_cases hb : s.st = 2 ∨ s.st = 4
      · rw [if_pos hb]; exact h3
      · rw [if_neg hb]
        have h2' : ¬ s.st = 2 := fun e => hb (.inl e)
        have h4' : ¬ s.st = 4 := fun e => hb (.inr e)
        rw [if_neg h2', if_neg h4'] at hw
        exact h.wait hw
    · intro hw
      simp only at hw ⊢
      exfalso
      apply hw
      by_cases h2' : s.st = 2
      · rw [if_pos h2']; exact .inl rfl
      · rw [if_neg h2']
        by_cases h4' : s.st = 4
        · rw [if_pos h4']; exact .inr rfl
        · rw [if_neg h4']; omega
  · rw [if_neg hE]; exact h
theorem accept_vl {s : CL} (h : VL s) (e : Int) (nm : ByteArray) (v : Int) : VL (acceptS s e nm v) := by
  unfold acceptS
  by_cases hE : acceptE s e nm v = 0
  · rw [if_pos hE]
    obtain ⟨⟨h1, h1a, h1b⟩, h2, h3, h4⟩ := accept_ok hE
    have hst := h.st
    have hown : (0 ≤ s.cen ∧ s.cen < 9) ∧ (1 ≤ s.ep ∧ s.ep ≤ 1099511627776) := by
      rcases h.own with ho | ho
      · exact ho
      · omega
    refine ⟨h.call, ?_, ?_, ?_, .inl hown, .inl ⟨h3, h4⟩, h.n, h.el⟩
    · simp only; split <;> omega
    · intro hw
      simp only at hw ⊢
      by_cases h11 : s.st = 1
      · rw [if_pos h11] at hw; omega
      · rw [if_neg h11] at hw ⊢; exact h.wait hw
    · intro hw
      simp only at hw ⊢
      by_cases h11 : s.st = 1
      · rw [if_pos h11]
      · rw [if_neg h11] at hw ⊢; exact h.busy hw
  · rw [if_neg hE]; exact h
theorem toList_nil {b : ByteArray} (h : (b.toList == []) = false) : ¬ b = ⟨#[]⟩ := fun e => by
  subst e
  have h2 : ((⟨#[]⟩ : ByteArray).toList == []) = true := by kernel_rfl
  rw [h2] at h
  cases h
theorem say_vl {s : CL} (h : VL s) (a : Int) : VL (sayS s a) := by
  unfold sayS
  by_cases hE : sayE s a = 0
  · rw [if_pos hE]
    obtain ⟨h1, h2, h3⟩ := say_ok hE
    have hb : s.since = -1 := h.busy (by omega)
    have hnm : (s.name.toList == []) = false := by
      unfold sayE at hE
      by_cases hq : (s.name.toList == []) = true
      · rw [if_neg (by omega), if_pos (.inr hq)] at hE; omega
      · simpa using hq
    have hown : (0 ≤ s.cen ∧ s.cen < 9) ∧ (1 ≤ s.ep ∧ s.ep ≤ 1099511627776) := by
      rcases h.own with ho | ho
      · exact ho
      · omega
    refine ⟨h.call, by simp, fun hw => by simp at hw, fun _ => hb, .inl hown, .inl ?_, by simp; omega, fun x hx => ?_⟩
    · rcases h.prot with hp | hp
      · exact hp
      · exact absurd hp.1 (toList_nil hnm)
    · simp only [List.mem_append, List.mem_singleton] at hx
      rcases hx with hx | rfl
      · exact h.el x hx
      · exact h1
  · rw [if_neg hE]; exact h
theorem hang_vl {s : CL} (h : VL s) (t : Int) : VL (hangS s t) := by
  unfold hangS
  by_cases hE : hangE s t = 0
  · rw [if_pos hE]
    obtain ⟨h1, h2, h3⟩ := hang_ok hE
    refine ⟨h.call, by simp, fun _ => ?_, fun hw => by simp at hw, ?_, h.prot, h.n, h.el⟩
    · simp only
      by_cases h11 : s.st = 1
      · rw [if_pos h11]; exact h.wait (.inl h11)
      · rw [if_neg h11]; exact h1
    · rcases h.own with ho | ho
      · exact .inl ho
      · exact .inr ⟨ho.1, ho.2.1, .inr rfl⟩
  · rw [if_neg hE]; exact h
theorem back_own {s : CL} (h : VL s) {e : Int} (h1 : vN e 1 = true) (h2 : e = s.ep) : (0 ≤ s.cen ∧ s.cen < 9) ∧ (1 ≤ s.ep ∧ s.ep ≤ 1099511627776) := by
  rw [vN_iff] at h1
  rcases h.own with ho | ho
  · exact ho
  · omega
theorem back_vl {s : CL} (h : VL s) (e : Int) : VL (backS s e) := by
  unfold backS
  by_cases hE : backE s e = 0
  · rw [if_pos hE]
    have hb := back_ok hE
    have hv : vN e 1 = true := by
      unfold backE at hE
      by_cases hq : vN e 1 = true
      · exact hq
      · rw [if_neg hq] at hE; omega
    have ho := back_own h hv hb.1
    exact ⟨h.call, by simp, fun hw => by simp at hw, fun _ => rfl, .inl ho, h.prot, h.n, h.el⟩
  · rw [if_neg hE]; exact h
theorem close_vl {s : CL} (h : VL s) (e : Int) : VL (closeS s e) := by
  unfold closeS
  by_cases hE : closeE s e = 0
  · rw [if_pos hE]
    have hb := close_ok hE
    have hv : vN e 1 = true := by
      unfold closeE at hE
      by_cases hq : vN e 1 = true
      · exact hq
      · rw [if_neg hq] at hE; omega
    have ho := back_own h hv hb.1
    exact ⟨h.call, by simp, fun hw => by simp at hw, fun _ => rfl, .inl ho, h.prot, h.n, h.el⟩
  · rw [if_neg hE]; exact h
theorem step_vl {s : CL} (h : VL s) (a : LA) : VL (stepS s a) := by
  unfold stepS
  split
  · exact assign_vl h ..
  · split
    · exact accept_vl h ..
    · split
      · exact say_vl h ..
      · split
        · exact hang_vl h ..
        · split
          · exact back_vl h ..
          · split
            · exact close_vl h ..
            · exact h
theorem foldS_vl : ∀ (l : List LA) (s : CL), VL s → VL (l.foldl stepS s)
  | [], _, h => h
  | a :: l, _, h => foldS_vl l _ (step_vl h a)
theorem runS_vl (l : List LA) : VL (runS l) := foldS_vl l _ lin0_vl
/-- the same but for 'since' -/
structure But (s m : CL) : Prop where
  st : m.st = s.st
  cen : m.cen = s.cen
  ep : m.ep = s.ep
  name : m.name = s.name
  ver : m.ver = s.ver
  ans : m.ans = s.ans
theorem But.refl (s : CL) : But s s := ⟨rfl, rfl, rfl, rfl, rfl, rfl⟩
theorem But.err {s m : CL} (h : But s m) (a : LA) : stepE m a = stepE s a := by
  obtain ⟨h1, h2, h3, h4, h5, h6⟩ := h
  unfold stepE assignE acceptE sayE hangE backE closeE
  rw [h1, h3, h4, h5, h6]
theorem But.step {s m : CL} (h : But s m) (a : LA) : But (stepS s a) (stepM m a) := by
  have hE := h.err a
  obtain ⟨h1, h2, h3, h4, h5, h6⟩ := h
  unfold stepE at hE
  unfold stepS stepM
  split
  · rename_i hk
    rw [if_pos hk, if_pos hk] at hE
    unfold assignS
    rw [hE]
    split
    · exact ⟨by simp only [h1], rfl, rfl, h4, h5, h6⟩
    · exact ⟨h1, h2, h3, h4, h5, h6⟩
  · rename_i hk
    rw [if_neg hk, if_neg hk] at hE
    split
    · rename_i hk
      rw [if_pos hk, if_pos hk] at hE
      unfold acceptS
      rw [hE]
      split
      · exact ⟨by simp only [h1], h2, h3, rfl, rfl, h6⟩
      · exact ⟨h1, h2, h3, h4, h5, h6⟩
    · rename_i hk
      rw [if_neg hk, if_neg hk] at hE
      split
      · rename_i hk
        rw [if_pos hk, if_pos hk] at hE
        unfold sayS saySR
        rw [hE]
        split
        · exact ⟨rfl, h2, h3, h4, h5, by simp only [h6]⟩
        · exact ⟨h1, h2, h3, h4, h5, h6⟩
      · rename_i hk
        rw [if_neg hk, if_neg hk] at hE
        split
        · rename_i hk
          rw [if_pos hk, if_pos hk] at hE
          unfold hangS
          rw [hE]
          split
          · exact ⟨rfl, h2, h3, h4, h5, h6⟩
          · exact ⟨h1, h2, h3, h4, h5, h6⟩
        · rename_i hk
          rw [if_neg hk, if_neg hk] at hE
          split
          · rename_i hk
            rw [if_pos hk, if_pos hk] at hE
            unfold backS
            rw [hE]
            split
            · exact ⟨rfl, h2, h3, h4, h5, h6⟩
            · exact ⟨h1, h2, h3, h4, h5, h6⟩
          · rename_i hk
            rw [if_neg hk, if_neg hk] at hE
            split
            · rename_i hk
              rw [if_pos hk, if_pos hk] at hE
              unfold closeS
              rw [hE]
              split
              · exact ⟨rfl, h2, h3, h4, h5, h6⟩
              · exact ⟨h1, h2, h3, h4, h5, h6⟩
            · exact ⟨h1, h2, h3, h4, h5, h6⟩
end Go.Proofs.Ytkkenfgpmoediaa

import Derived.Test.YtmkcphhgimlkgaaDiJ
namespace Go.Proofs.Ytmkcphhgimlkgaa
open Go.RowKit

/-! ## Two states of a map, plain -/
/-- a lease that is still valid at `now` keeps its holder under any command before -/
theorem doD_keeps (cen dur : Int) (l : List St) (kd ds ce ep t now : Int) (ht : t ≤ now) {d : Nat} {s : St} (hs : l[d]? = some s) (hu : now ≤ s.u) :
    ∃ s', (doD cen dur l kd ds ce ep t).1[d]? = some s' ∧ s'.h = s.h ∧ now ≤ s'.u := by
  have same : ∃ s', l[d]? = some s' ∧ s'.h = s.h ∧ now ≤ s'.u := ⟨s, hs, rfl, hu⟩
  have turned : ∀ (i : Nat) (q q' : St), l[i]? = some q → (i = d → q'.h = q.h ∧ now ≤ q'.u) → ∃ s', (l.set i q')[d]? = some s' ∧ s'.h = s.h ∧ now ≤ s'.u := by
    intro i q q' hq hi
    by_cases h : i = d
    · subst h
      rw [hs] at hq; cases hq
      obtain ⟨h1, h2⟩ := hi rfl
      have hl := (List.getElem?_eq_some_iff.1 hs).1
      exact ⟨q', by rw [List.getElem?_set_self hl], h1, h2⟩
    · rw [List.getElem?_set_ne h]; exact same
  unfold doD
  split
  · exact same
  · split
    · unfold acqR
      split
      · split
        · rename_i q hq
          split
          · split
            · exact same
            · rename_i h2
              refine turned _ q _ hq (fun e => ?_)
              rw [e, hs] at hq; cases hq
              omega
          · exact same
        · exact same
      · exact same
    · split
      · unfold renR
        split
        · split
          · rename_i q hq
            split
            · split
              · refine turned _ q _ hq (fun e => ?_)
                rw [e, hs] at hq; cases hq
                exact ⟨rfl, by simp only; omega⟩
              · exact same
            · exact same
          · exact same
        · exact same
      · split
        · unfold relR
          split
          · split
            · rename_i q hq
              split
              · split
                · refine turned _ q _ hq (fun e => ?_)
                  rw [e, hs] at hq; cases hq
                  exact ⟨rfl, hu⟩
                · exact same
              · exact same
            · exact same
          · exact same
        · exact same
theorem runD_keeps (c : CF) (now : Int) {d : Nat} : ∀ (acts : List AK) (l : List St) (s : St), (∀ a ∈ acts, a.now ≤ now) → l[d]? = some s → now ≤ s.u → ∃ s', (runD c acts l)[d]? = some s' ∧ s'.h = s.h ∧ now ≤ s'.u
  | [], l, s, _, hs, hu => ⟨s, hs, rfl, hu⟩
  | a :: r, l, s, ha, hs, hu => by
    obtain ⟨s1, h1, h2, h3⟩ := doD_keeps c.cen c.h3 l a.kind a.dst a.cen a.ep a.now now (ha a (by simp)) hs hu
    obtain ⟨s2, h4, h5, h6⟩ := runD_keeps c now r _ s1 (fun b hb => ha b (by simp [hb])) h1 h3
    exact ⟨s2, h4, h5.trans h2, h6⟩
theorem runD_more (c : CF) (acts : List AK) (l : List St) {i j : Nat} (h : i ≤ j) : runD c (acts.take j) l = runD c ((acts.take j).drop i) (runD c (acts.take i) l) := by
  have e : acts.take i = (acts.take j).take i := by rw [List.take_take, Nat.min_eq_left h]
  rw [e, runD, runD, runD, ← List.foldl_append, List.take_append_drop]
/-- two states, the same district, both valid: the same holder -/
theorem two_same (c : CF) (acts : List AK) (l : List St) (now : Int) (ha : ∀ a ∈ acts, a.now ≤ now) (i j d : Nat) {s t : St} (hs : (runD c (acts.take i) l)[d]? = some s) (ht : (runD c (acts.take j) l)[d]? = some t) (hus : now ≤ s.u) (hut : now ≤ t.u) : s.h = t.h := by
  rcases Nat.le_total i j with h | h
  · rw [runD_more c acts l h] at ht
    obtain ⟨s', h1, h2, _⟩ := runD_keeps c now _ _ s (fun a h => ha a (List.mem_of_mem_take (List.mem_of_mem_drop h))) hs hus
    rw [h1] at ht; cases ht
    exact h2.symm
  · rw [runD_more c acts l h] at hs
    obtain ⟨s', h1, h2, _⟩ := runD_keeps c now _ _ t (fun a h => ha a (List.mem_of_mem_take (List.mem_of_mem_drop h))) ht hut
    rw [h1] at hs; cases hs
    exact h2
theorem pick_mem {α : Type} {p : α → Bool} {l : List α} {x : Int} (k : Nat) (h : x ∈ pick p l k) : ∃ (d : Nat) (a : α), x = d ∧ l[d]? = some a ∧ p a = true := by
  induction k with
  | zero => simp [pick] at h
  | succ k ih =>
    rw [pick_succ, List.mem_append] at h
    rcases h with h | h
    · exact ih h
    · cases hk : l[k]? with
      | none => simp [hk] at h
      | some a =>
        rw [hk] at h
        by_cases hp : p a = true
        · simp [hp] at h; exact ⟨k, a, h, hk, hp⟩
        · simp [hp] at h
/-- no district of two centres -/
theorem two_not (c : CF) (acts : List AK) (l : List St) (now : Int) (ha : ∀ a ∈ acts, a.now ≤ now) (i j : Nat) (a b : Int) (hab : a ≠ b) {x : Int}
    (hx : x ∈ pick (actB a now) (runD c (acts.take i) l) (runD c (acts.take i) l).length) (hy : x ∈ pick (actB b now) (runD c (acts.take j) l) (runD c (acts.take j) l).length) : False := by
  obtain ⟨d, s, h1, h2, h3⟩ := pick_mem _ hx
  obtain ⟨e, t, g1, g2, g3⟩ := pick_mem _ hy
  have hde : d = e := by omega
  subst hde
  simp only [actB, Bool.and_eq_true, decide_eq_true_eq] at h3 g3
  have := two_same c acts l now ha i j d h2 g2 h3.2.2 g3.2.2
  omega
end Go.Proofs.Ytmkcphhgimlkgaa

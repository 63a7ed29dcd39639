import Derived.Test.YtffodheoamlhjaaMono
namespace Go.Proofs.Ytffodheoamlhjaa
open Go.RowKit

/-! ## A lease that is valid at T stays with its holder through operations before T -/
/-- Every lease of S that lasts to T is in S' with the same holder and epoch, and lasts to T. -/
def Held (T : Int) (S S' : List St) : Prop := S'.length = S.length ∧ ∀ (i : Nat) (s : St), S[i]? = some s → T ≤ s.u → ∃ s' : St, S'[i]? = some s' ∧ s'.h = s.h ∧ s'.e = s.e ∧ T ≤ s'.u
theorem Held.refl (T : Int) (S : List St) : Held T S S := ⟨rfl, fun _ s h hu => ⟨s, h, rfl, rfl, hu⟩⟩
theorem Held.trans {T : Int} {S S1 S2 : List St} (h : Held T S S1) (k : Held T S1 S2) : Held T S S2 :=
  ⟨k.1.trans h.1, fun i s hs hu => by
    obtain ⟨s1, a, b, c, d⟩ := h.2 i s hs hu
    obtain ⟨s2, a', b', c', d'⟩ := k.2 i s1 a d
    exact ⟨s2, a', b'.trans b, c'.trans c, d'⟩⟩
theorem Held.set {T : Int} {S : List St} {i : Nat} {s s' : St} (h : S[i]? = some s) (hs : T ≤ s.u → s'.h = s.h ∧ s'.e = s.e ∧ T ≤ s'.u) : Held T S (S.set i s') :=
  ⟨by simp, fun j t ht hu => by
    by_cases hj : i = j
    · subst hj
      rw [h] at ht
      injection ht with ht
      subst ht
      exact ⟨s', List.getElem?_set_self (List.getElem?_eq_some_iff.1 h).1, hs hu⟩
    · exact ⟨t, by rw [List.getElem?_set_ne hj]; exact ht, rfl, rfl, hu⟩⟩
theorem acq_held {T : Int} (S : List St) (t w e n l : Int) (hn : n ≤ T) : Held T S (acqR S t w e n l).1 := by
  unfold acqR
  split
  · split
    · rename_i s hs
      split
      · split
        · exact Held.refl _ _
        · exact Held.set hs (fun hu => by omega)
      · exact Held.refl _ _
    · exact Held.refl _ _
  · exact Held.refl _ _
theorem ren_held {T : Int} (S : List St) (t w e n l : Int) : Held T S (renR S t w e n l).1 := by
  unfold renR
  split
  · split
    · rename_i s hs
      split
      · split
        · exact Held.set hs (fun hu => ⟨rfl, rfl, by simp only; omega⟩)
        · exact Held.refl _ _
      · exact Held.refl _ _
    · exact Held.refl _ _
  · exact Held.refl _ _
theorem rel_held {T : Int} (S : List St) (t w e n : Int) : Held T S (relR S t w e n).1 := by
  unfold relR
  split
  · split
    · rename_i s hs
      split
      · split
        · exact Held.set hs (fun hu => ⟨rfl, rfl, hu⟩)
        · exact Held.refl _ _
      · exact Held.refl _ _
    · exact Held.refl _ _
  · exact Held.refl _ _
theorem act_held {T : Int} (S : List St) (a : Ac) (hn : a.n ≤ T) : Held T S (act S a).1 := by
  unfold act
  split
  · exact acq_held _ _ _ _ _ _ hn
  · split
    · exact ren_held _ _ _ _ _ _
    · exact rel_held _ _ _ _ _
/-- the state behind operations -/
def acts (S : List St) (l : List Ac) : List St := l.foldl (fun S a => (act S a).1) S
theorem acts_held {T : Int} : ∀ (l : List Ac) (S : List St), (∀ a ∈ l, a.n ≤ T) → Held T S (acts S l)
  | [], S, _ => Held.refl _ _
  | a :: l, S, h => (act_held S a (h a (by simp))).trans (acts_held l _ (fun b hb => h b (by simp [hb])))
theorem acts_append (S : List St) (l m : List Ac) : acts S (l ++ m) = acts (acts S l) m := by simp [acts]
/-- One of two beginnings of one list goes on from the other. -/
theorem acts_two {T : Int} (S : List St) (ops : List Ac) (i j : Nat) (hij : i ≤ j) (hj : ∀ a ∈ ops.take j, a.n ≤ T) : Held T (acts S (ops.take i)) (acts S (ops.take j)) := by
  have e : ops.take j = ops.take i ++ (ops.drop i).take (j - i) := by
    have : j = i + (j - i) := by omega
    conv => lhs; rw [this]
    rw [List.take_add]
  rw [e, acts_append]
  refine acts_held _ _ fun a ha => hj a ?_
  rw [e]; simp [ha]
def sameHold (S0 S1 : List St) (T : Int) (i : Nat) : Prop :=
  T ≤ (lastR S0 i).2.2 → T ≤ (lastR S1 i).2.2 → (lastR S0 i).1 = (lastR S1 i).1 ∧ (lastR S0 i).2.1 = (lastR S1 i).2.1
theorem held_same {T : Int} {S0 S1 : List St} (h : Held T S0 S1) (i : Nat) : sameHold S0 S1 T i := by
  intro h0 h1
  cases hi : S0[i]? with
  | none =>
    have h1 : S1[i]? = none := by rw [List.getElem?_eq_none_iff] at hi ⊢; have := h.1; omega
    unfold lastR
    simp [hi, h1]
  | some s =>
    rw [last_at hi] at h0 ⊢
    obtain ⟨s', hs', a, b, c⟩ := h.2 i s hi h0
    rw [last_at hs'] at h1 ⊢
    exact ⟨a.symm, b.symm⟩
theorem excl {T : Int} (S : List St) (ops : List Ac) (i j : Nat) (hi : ∀ a ∈ ops.take i, a.n ≤ T) (hj : ∀ a ∈ ops.take j, a.n ≤ T) (k : Nat) : sameHold (acts S (ops.take i)) (acts S (ops.take j)) T k := by
  rcases Nat.le_total i j with h | h
  · exact held_same (acts_two S ops i j h hj) k
  · intro h0 h1
    have := held_same (acts_two S ops j i h hi) k h1 h0
    exact ⟨this.1.symm, this.2.symm⟩
end Go.Proofs.Ytffodheoamlhjaa

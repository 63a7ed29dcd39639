import Derived.Test.YtffodheoamlhjaaSum
namespace Go.Proofs.Ytffodheoamlhjaa
open Go.RowKit

/-! ## One operation: what it may do -/
structure MonoP (o n : Int × Int × Int) (f : Int) (L L' : List St) (N : Int) : Prop where
  e1 : o.2.1 ≤ n.2.1
  u1 : o.2.2 ≤ n.2.2
  w1 : n.2.1 = o.2.1 → n.1 = o.1
  e2 : n.2.1 ≤ o.2.1 + 1
  f1 : ¬ f = 0 → L' = L
  lo : 0 ≤ o.2.1
  hi : o.2.1 ≤ N
theorem last_eps {L : List St} {N : Int} (h : Eps L N) (hN : 1 ≤ N) (t : Int) : 0 ≤ (lastR L t).2.1 ∧ (lastR L t).2.1 ≤ N := by
  unfold lastR
  split
  · split
    · rename_i s hs
      have := h s (List.mem_of_getElem? hs)
      simp only; omega
    · simp only; omega
  · simp only; omega
theorem MonoP.same {L : List St} {N : Int} (h : Eps L N) (hN : 1 ≤ N) (t f : Int) : MonoP (lastR L t) (lastR L t) f L L N :=
  ⟨Int.le_refl _, Int.le_refl _, fun _ => rfl, by omega, fun _ => rfl, (last_eps h hN t).1, (last_eps h hN t).2⟩
theorem last_at {L : List St} {i : Nat} {s : St} (h : L[i]? = some s) : lastR L i = (s.h, s.e, s.u) := by
  unfold lastR
  rw [if_pos (by omega), Int.toNat_natCast, h]
theorem last_set {L : List St} {i : Nat} {s s' : St} (h : L[i]? = some s) : lastR (L.set i s') i = (s'.h, s'.e, s'.u) :=
  last_at (by rw [List.getElem?_set_self (List.getElem?_eq_some_iff.1 h).1])
theorem acq_mono {L : List St} {N : Int} (h : Eps L N) (hN : 1 ≤ N) (hN' : N ≤ 1000000) (t w e n ln : Int) : MonoP (lastR L t) (lastR (acqR L t w e n ln).1 t) (acqR L t w e n ln).2.2 L (acqR L t w e n ln).1 N := by
  unfold acqR
  by_cases hb : (decide (0 ≤ t) && decide (t < L.length) && vH w && vL ln && vN n) = true
  · rw [if_pos hb]
    simp only [Bool.and_eq_true, decide_eq_true_eq] at hb
    obtain ⟨⟨⟨⟨h0, h1⟩, h2⟩, h3⟩, h4⟩ := hb
    obtain ⟨i, rfl⟩ := Int.eq_ofNat_of_zero_le h0
    obtain ⟨s, hi⟩ := get_some (l := L) (k := i) (by omega)
    have hs := h s (List.mem_of_getElem? hi)
    simp only [Int.toNat_natCast, hi]
    have hl : 1 ≤ ln ∧ ln ≤ 1048576 := by simpa [vL] using h3
    by_cases h6 : s.e = e
    · rw [if_pos h6]
      by_cases h7 : n ≤ s.u
      · rw [if_pos h7]; exact MonoP.same h hN _ _
      · rw [if_neg h7]
        simp only
        rw [last_set hi, last_at hi, ← h6, wrap_small _ (by omega) (by omega)]
        exact ⟨by simp only; omega, by simp only; omega, by simp only; omega, by simp only; omega, by simp, by simp only; omega, hs.2⟩
    · rw [if_neg h6]; exact MonoP.same h hN _ _
  · rw [if_neg hb]; exact MonoP.same h hN _ _
theorem ren_mono {L : List St} {N : Int} (h : Eps L N) (hN : 1 ≤ N) (t w e n ln : Int) : MonoP (lastR L t) (lastR (renR L t w e n ln).1 t) (renR L t w e n ln).2 L (renR L t w e n ln).1 N := by
  unfold renR
  by_cases hb : (decide (0 ≤ t) && decide (t < L.length) && vH w && vL ln && vN n) = true
  · rw [if_pos hb]
    simp only [Bool.and_eq_true, decide_eq_true_eq] at hb
    obtain ⟨⟨⟨⟨h0, h1⟩, h2⟩, h3⟩, h4⟩ := hb
    obtain ⟨i, rfl⟩ := Int.eq_ofNat_of_zero_le h0
    obtain ⟨s, hi⟩ := get_some (l := L) (k := i) (by omega)
    have hs := h s (List.mem_of_getElem? hi)
    simp only [Int.toNat_natCast, hi]
    by_cases h6 : s.e = e
    · rw [if_pos h6]
      by_cases h7 : heldE s w n = 0
      · rw [if_pos h7]
        simp only
        rw [last_set hi, last_at hi]
        exact ⟨Int.le_refl _, by simp only; omega, fun _ => rfl, by simp only; omega, by simp, by simp only; omega, hs.2⟩
      · rw [if_neg h7]; exact MonoP.same h hN _ _
    · rw [if_neg h6]; exact MonoP.same h hN _ _
  · rw [if_neg hb]; exact MonoP.same h hN _ _
theorem rel_mono {L : List St} {N : Int} (h : Eps L N) (hN : 1 ≤ N) (t w e n : Int) : MonoP (lastR L t) (lastR (relR L t w e n).1 t) (relR L t w e n).2 L (relR L t w e n).1 N := by
  unfold relR
  by_cases hb : (decide (0 ≤ t) && decide (t < L.length) && vH w && vN n) = true
  · rw [if_pos hb]
    simp only [Bool.and_eq_true, decide_eq_true_eq] at hb
    obtain ⟨⟨⟨h0, h1⟩, h2⟩, h4⟩ := hb
    obtain ⟨i, rfl⟩ := Int.eq_ofNat_of_zero_le h0
    obtain ⟨s, hi⟩ := get_some (l := L) (k := i) (by omega)
    have hs := h s (List.mem_of_getElem? hi)
    simp only [Int.toNat_natCast, hi]
    by_cases h6 : s.e = e
    · rw [if_pos h6]
      by_cases h7 : heldE s w n = 0
      · rw [if_pos h7]
        simp only
        rw [last_set hi, last_at hi]
        exact ⟨Int.le_refl _, by simp only; omega, fun _ => rfl, by simp only; omega, by simp, by simp only; omega, hs.2⟩
      · rw [if_neg h7]; exact MonoP.same h hN _ _
    · rw [if_neg h6]; exact MonoP.same h hN _ _
  · rw [if_neg hb]; exact MonoP.same h hN _ _
/-- the operation of LeaseMonotone and LeaseExclusive: whatever is neither 0 nor 1 releases -/
def act (L : List St) (a : Ac) : List St × Int :=
  if a.k = 0 then ((acqR L a.t a.w a.e a.n a.l).1, (acqR L a.t a.w a.e a.n a.l).2.2) else if a.k = 1 then renR L a.t a.w a.e a.n a.l else relR L a.t a.w a.e a.n
theorem act_mono {L : List St} {N : Int} (h : Eps L N) (hN : 1 ≤ N) (hN' : N ≤ 1000000) (a : Ac) : MonoP (lastR L a.t) (lastR (act L a).1 a.t) (act L a).2 L (act L a).1 N := by
  unfold act
  split
  · exact acq_mono h hN hN' _ _ _ _ _
  · split
    · exact ren_mono h hN _ _ _ _ _
    · exact rel_mono h hN _ _ _ _
theorem act_eps {L : List St} {N : Int} (h : Eps L N) (hN' : N ≤ 1000000) (a : Ac) : Eps (act L a).1 (N + 1) := by
  unfold act
  split
  · exact acq_eps h hN' _ _ _ _ _
  · split
    · exact (ren_eps h _ _ _ _ _).more (by omega)
    · exact (rel_eps h _ _ _ _).more (by omega)
end Go.Proofs.Ytffodheoamlhjaa

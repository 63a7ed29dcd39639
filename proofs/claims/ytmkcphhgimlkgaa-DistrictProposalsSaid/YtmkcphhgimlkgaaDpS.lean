import Derived.Test.YtmkcphhgimlkgaaDiE
namespace Go.Proofs.Ytmkcphhgimlkgaa
open Go.RowKit

/-! ## Proposals that are applied, plain -/
def appl (cen dur ce now : Int) (l : List St) (L : List (Int × Int × Int)) : List St := L.foldl (fun l x => (doD cen dur l x.1 x.2.1 ce x.2.2 now).1) l
theorem appl_snoc {cen dur ce now : Int} {l : List St} {L : List (Int × Int × Int)} {x : Int × Int × Int} : appl cen dur ce now l (L ++ [x]) = (doD cen dur (appl cen dur ce now l L) x.1 x.2.1 ce x.2.2 now).1 := by
  rw [appl, appl, List.foldl_append]; rfl
/-- a district's state when its proposal has been applied -/
def aft (n : Nat) (dur ce now again : Int) (p : Nat → Bool) (d : Nat) (s : St) : St :=
  if propK n dur ce now again p d s = 8 then ⟨ce, wrap64 (s.e + 1), now + dur, false⟩
  else if propK n dur ce now again p d s = 9 then ⟨s.h, s.e, max s.u (now + dur), s.r⟩
  else if propK n dur ce now again p d s = 10 then ⟨s.h, s.e, s.u, true⟩
  else s
section
variable {n : Nat} {dur ce now again : Int} {p : Nat → Bool} {d : Nat} {s : St}
theorem propK_cases : propK n dur ce now again p d s = 8 ∨ propK n dur ce now again p d s = 9 ∨ propK n dur ce now again p d s = 10 ∨ propK n dur ce now again p d s = 0 := by
  unfold propK
  split
  · split
    · exact .inl rfl
    · exact .inr (.inr (.inr rfl))
  · split
    · exact .inr (.inr (.inr rfl))
    · split
      · exact .inr (.inr (.inl rfl))
      · split
        · exact .inr (.inl rfl)
        · exact .inr (.inr (.inr rfl))
theorem propK_8 (h : propK n dur ce now again p d s = 8) : s.u < now := by
  unfold propK at h
  split at h
  · assumption
  · split at h
    · simp at h
    · split at h
      · simp at h
      · split at h <;> simp at h
theorem propK_910 (h : propK n dur ce now again p d s = 9 ∨ propK n dur ce now again p d s = 10) : now ≤ s.u ∧ s.h = ce ∧ s.r = false := by
  unfold propK at h
  split at h
  · split at h <;> simp at h
  · split at h
    · simp at h
    · rename_i h1 h2
      refine ⟨by omega, ?_, ?_⟩
      · apply Classical.byContradiction; intro h3; exact h2 (.inl (fun e => h3 e.symm))
      · cases hr : s.r
        · rfl
        · exact absurd (.inr hr) h2
/-- behind its own proposal nothing but a release is proposed, and this behind a takeover alone -/
theorem propK_aft (hd1 : 1 ≤ dur) (h : propK n dur ce now again p d (aft n dur ce now again p d s) ≠ 0) : propK n dur ce now again p d (aft n dur ce now again p d s) = 10 ∧ propK n dur ce now again p d s = 8 := by
  rcases propK_cases (n := n) (dur := dur) (ce := ce) (now := now) (again := again) (p := p) (d := d) (s := s) with h8 | h9 | h10 | h0
  · have e : aft n dur ce now again p d s = ⟨ce, wrap64 (s.e + 1), now + dur, false⟩ := by simp [aft, h8]
    rw [e] at h ⊢
    refine ⟨?_, h8⟩
    unfold propK at h ⊢
    simp only at h ⊢
    rw [if_neg (by omega)] at h ⊢
    rw [if_neg (by simp)] at h ⊢
    split at h
    · rename_i h1; rw [if_pos h1]
    · rename_i h1
      rw [if_neg (show ¬ now + dur < now + dur - max again 0 by omega)] at h
      exact absurd rfl h
  · have e : aft n dur ce now again p d s = ⟨s.h, s.e, max s.u (now + dur), s.r⟩ := by simp [aft, h9]
    obtain ⟨g1, g2, g3⟩ := propK_910 (.inl h9)
    rw [e] at h
    exfalso
    apply h
    have h9' := h9
    unfold propK at h9' ⊢
    simp only at h9' ⊢
    rw [if_neg (show ¬ s.u < now by omega)] at h9'
    rw [if_neg (show ¬ max s.u (now + dur) < now by omega)]
    split at h9'
    · simp at h9'
    · rename_i h2
      rw [if_neg h2]
      split at h9'
      · simp at h9'
      · rename_i h3
        rw [if_neg h3, if_neg (show ¬ max s.u (now + dur) < now + dur - max again 0 by omega)]
  · have e : aft n dur ce now again p d s = ⟨s.h, s.e, s.u, true⟩ := by simp [aft, h10]
    obtain ⟨g1, g2, g3⟩ := propK_910 (.inr h10)
    rw [e] at h
    exfalso
    apply h
    unfold propK
    simp only
    rw [if_neg (show ¬ s.u < now by omega), if_pos (.inr trivial)]
  · have e : aft n dur ce now again p d s = s := by simp [aft, h0]
    rw [e] at h
    exact absurd h0 h
end
section
variable {cen dur ce now again : Int} {p : Nat → Bool} {l : List St}
/-- one proposal succeeds, and turns its own district alone -/
theorem one_ok (hO : OkL cen dur l) (hok : okAsk cen ce now = true) {l' : List St} (hl : l'.length = l.length) {k : Nat} {s : St} (hs : l[k]? = some s) (hs' : l'[k]? = some s) (h : propK l.length dur ce now again p k s ≠ 0) :
    doD cen dur l' (propK l.length dur ce now again p k s) k ce s.e now = (l'.set k (aft l.length dur ce now again p k s), 0) := by
  simp only [okAsk, Bool.and_eq_true, decide_eq_true_eq] at hok
  obtain ⟨⟨hic, n0⟩, n1⟩ := hok
  have hce := inB_in hic
  have hk := (List.getElem?_eq_some_iff.1 hs').1
  have h9 := hO.hi
  have hvh : vH ce = true := by simp [vH]; omega
  have hvn : vN now = true := by simp [vN]; omega
  have hg1 : (decide ((0 : Int) ≤ k) && decide ((k : Int) < l'.length) && vH ce && vL dur && vN now) = true := by
    rw [hvh, hvn, hO.dur]; simp; omega
  have hg2 : (decide ((0 : Int) ≤ k) && decide ((k : Int) < l'.length) && vH ce && vN now) = true := by
    rw [hvh, hvn]; simp; omega
  rcases propK_cases (n := l.length) (dur := dur) (ce := ce) (now := now) (again := again) (p := p) (d := k) (s := s) with h8 | h9 | h10 | h0
  · have hu := propK_8 h8
    have e : aft l.length dur ce now again p k s = ⟨ce, wrap64 (s.e + 1), now + dur, false⟩ := by simp [aft, h8]
    rw [e, h8]
    simp only [doD, hic]
    rw [if_neg (by simp), if_pos trivial]
    unfold acqR
    rw [if_pos hg1, Int.toNat_natCast, hs']
    simp only [if_pos]
    rw [if_neg (show ¬ now ≤ s.u by omega)]
  · obtain ⟨g1, g2, g3⟩ := propK_910 (.inl h9)
    have e : aft l.length dur ce now again p k s = ⟨s.h, s.e, max s.u (now + dur), s.r⟩ := by simp [aft, h9]
    rw [e, h9]
    simp only [doD, hic]
    rw [if_neg (by simp), if_neg (by decide), if_pos trivial]
    unfold renR
    rw [if_pos hg1, Int.toNat_natCast, hs']
    simp only [if_pos]
    rw [if_pos (by simp [heldE, g2, g3]; omega)]
  · obtain ⟨g1, g2, g3⟩ := propK_910 (.inr h10)
    have e : aft l.length dur ce now again p k s = ⟨s.h, s.e, s.u, true⟩ := by simp [aft, h10]
    rw [e, h10]
    simp only [doD, hic]
    rw [if_neg (by simp), if_neg (by decide), if_neg (by decide), if_pos trivial]
    unfold relR
    rw [if_pos hg2, Int.toNat_natCast, hs']
    simp only [if_pos]
    rw [if_pos (by simp [heldE, g2, g3]; omega)]
  · exact absurd h0 h
/-- the state when the first k districts' proposals have been applied -/
theorem appl_to (hO : OkL cen dur l) (hok : okAsk cen ce now = true) (k : Nat) (hk : k ≤ l.length) :
    (appl cen dur ce now l (propsTo l.length dur ce now again p l k)).length = l.length ∧
    (∀ d, k ≤ d → (appl cen dur ce now l (propsTo l.length dur ce now again p l k))[d]? = l[d]?) ∧
    (∀ d s, d < k → l[d]? = some s → (appl cen dur ce now l (propsTo l.length dur ce now again p l k))[d]? = some (aft l.length dur ce now again p d s)) := by
  induction k with
  | zero => exact ⟨by simp [propsTo, appl], fun d _ => by simp [propsTo, appl], fun d s h => by omega⟩
  | succ k ih =>
    obtain ⟨h1, h2, h3⟩ := ih (by omega)
    obtain ⟨s, hs⟩ := get_some (l := l) (k := k) (by omega)
    rw [propsTo_succ]
    generalize hA : appl cen dur ce now l (propsTo l.length dur ce now again p l k) = A at h1 h2 h3
    by_cases h0 : propK l.length dur ce now again p k s = 0
    · rw [propAt_zero hs h0, List.append_nil, hA]
      refine ⟨h1, fun d hd => h2 d (by omega), fun d t hd ht => ?_⟩
      by_cases hdk : d = k
      · subst hdk
        rw [hs] at ht; cases ht
        rw [h2 d (Nat.le_refl _), hs]
        simp [aft, h0]
      · exact h3 d t (by omega) ht
    · rw [propAt_some hs h0, appl_snoc, hA]
      have := one_ok (again := again) (p := p) hO hok h1 hs (by rw [h2 k (Nat.le_refl _), hs]) h0
      simp only
      rw [this]
      refine ⟨by simpa using h1, fun d hd => ?_, fun d t hd ht => ?_⟩
      · rw [List.getElem?_set_ne (by omega)]; exact h2 d (by omega)
      · by_cases hdk : d = k
        · subst hdk
          rw [hs] at ht; cases ht
          rw [List.getElem?_set_self (by rw [h1]; omega)]
        · rw [List.getElem?_set_ne (by omega)]; exact h3 d t (by omega) ht
/-- where a proposal stands -/
theorem props_at (m : Nat) {j : Nat} {x : Int × Int × Int} (h : (propsTo l.length dur ce now again p l m)[j]? = some x) :
    ∃ k s, k < m ∧ l[k]? = some s ∧ (propsTo l.length dur ce now again p l m).take j = propsTo l.length dur ce now again p l k ∧ propK l.length dur ce now again p k s ≠ 0 ∧ x = (propK l.length dur ce now again p k s, (k : Int), s.e) := by
  induction m with
  | zero => simp [propsTo] at h
  | succ m ih =>
    rw [propsTo_succ] at h ⊢
    by_cases hj : j < (propsTo l.length dur ce now again p l m).length
    · rw [List.getElem?_append_left hj] at h
      obtain ⟨k, s, h1, h2, h3, h4⟩ := ih h
      exact ⟨k, s, by omega, h2, by rw [List.take_append_of_le_length (by omega)]; exact h3, h4⟩
    · rw [List.getElem?_append_right (by omega)] at h
      cases hs : l[m]? with
      | none => simp [propAt, hs] at h
      | some s =>
        by_cases h0 : propK l.length dur ce now again p m s = 0
        · rw [propAt_zero hs h0] at h; simp at h
        · rw [propAt_some hs h0] at h ⊢
          have hz : j - (propsTo l.length dur ce now again p l m).length = 0 := by
            have := (List.getElem?_eq_some_iff.1 h).1
            simp at this; omega
          rw [hz] at h
          simp at h
          refine ⟨m, s, by omega, hs, ?_, h0, h.symm⟩
          rw [List.take_append_of_le_length (by omega), List.take_of_length_le (by omega)]
end
/-- All proposals succeed in turn. -/
theorem succeeds (cen dur ce now again : Int) (S : List Int) (l : List St) (hO : OkL cen dur l) {j : Nat} {x : Int × Int × Int} (h : (props cen dur ce now again S l)[j]? = some x) :
    (doD cen dur (appl cen dur ce now l ((props cen dur ce now again S l).take j)) x.1 x.2.1 ce x.2.2 now).2 = 0 := by
  unfold props at h ⊢
  split at h
  · rename_i hok
    obtain ⟨k, s, h1, h2, h3, h4, rfl⟩ := props_at _ h
    obtain ⟨g1, g2, _⟩ := appl_to (again := again) (p := susB S ce) hO hok k (by omega)
    rw [if_pos hok, h3]
    simp only
    rw [one_ok (again := again) (p := susB S ce) hO hok g1 h2 (by rw [g2 k (Nat.le_refl _), h2]) h4]
  · simp at h
/-- What is proposed then is a release, and none that was proposed before. -/
theorem then_not (cen dur ce now again : Int) (S : List Int) (l : List St) (hO : OkL cen dur l) {x : Int × Int × Int}
    (hx : x ∈ props cen dur ce now again S (appl cen dur ce now l (props cen dur ce now again S l))) : x.1 = 10 ∧ ∀ y ∈ props cen dur ce now again S l, ¬ (y.1 = 10 ∧ y.2.1 = x.2.1) := by
  have hdu := vL_in hO.dur
  cases hok : okAsk cen ce now
  · simp [props, hok] at hx
  · have e : props cen dur ce now again S l = propsTo l.length dur ce now again (susB S ce) l l.length := by simp [props, hok]
    obtain ⟨g1, _, g3⟩ := appl_to (again := again) (p := susB S ce) hO hok l.length (Nat.le_refl _)
    rw [e] at hx ⊢
    generalize appl cen dur ce now l (propsTo l.length dur ce now again (susB S ce) l l.length) = A at hx g1 g3
    have e2 : props cen dur ce now again S A = propsTo A.length dur ce now again (susB S ce) A A.length := by simp [props, hok]
    rw [e2] at hx
    obtain ⟨j, hj⟩ := List.mem_iff_getElem?.1 hx
    obtain ⟨k, s', h1, h2, _, h4, rfl⟩ := props_at _ hj
    obtain ⟨s, hs⟩ := get_some (l := l) (k := k) (by omega)
    rw [g3 k s (by omega) hs] at h2
    cases h2
    rw [g1] at h4 ⊢
    obtain ⟨q1, q2⟩ := propK_aft hdu.1 h4
    refine ⟨q1, fun y hy => ?_⟩
    rintro ⟨y1, y2⟩
    obtain ⟨i, hi⟩ := List.mem_iff_getElem?.1 hy
    obtain ⟨k', t, f1, f2, _, f4, rfl⟩ := props_at _ hi
    simp only at y1 y2
    have hkk : k' = k := by omega
    subst hkk
    rw [hs] at f2
    cases f2
    rw [q2] at y1
    exact absurd y1 (by decide)
end Go.Proofs.Ytmkcphhgimlkgaa

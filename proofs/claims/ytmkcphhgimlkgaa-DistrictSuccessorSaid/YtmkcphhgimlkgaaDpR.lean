import Derived.Test.YtmkcphhgimlkgaaDpS
import Derived.Test.YtmkcphhgimlkgaaDiB
namespace Go.Proofs.Ytmkcphhgimlkgaa
open Go.RowKit

/-! ## After all leases have expired: who proposes what, plain -/
def inS (S : List Int) (k : Nat) : Bool := S.any (fun s => s == (k : Int))
theorem sus_in {S : List Int} {k : Nat} (h : inS S k = false) : susB S (k : Int) = inS S := by
  funext j
  rw [susB]
  by_cases hj : (j : Int) = k
  · obtain rfl : j = k := by omega
    rw [show S.any (fun s => s == (j : Int)) = false from h, h]; rfl
  · rw [show ((j : Int) == k) = false from by simpa using hj]
    show (inS S j && !false) = inS S j
    simp
theorem init_get {n k : Nat} {dur : Int} (h : k < n) : (initL n dur)[k]? = some (mkSt dur k) := by
  rw [initL, List.getElem?_map, cents_get h]; rfl
section
variable {n : Nat} {dur ce : Int} {p : Nat → Bool}
theorem exp_at {m : Nat} (hm : m < n) : propAt n dur ce (dur + 1) 0 p (initL n dur) m = if ce = succK p n m then [(8, (m : Int), (mkSt dur m).e)] else [] := by
  have hs := init_get (dur := dur) hm
  have hk : propK n dur ce (dur + 1) 0 p m (mkSt dur m) = if ce = succK p n m then 8 else 0 := by
    rw [propK, if_pos (show (mkSt dur m).u < dur + 1 from by show dur < dur + 1; omega)]
  by_cases h : ce = succK p n m
  · rw [if_pos h] at hk ⊢
    rw [propAt_some hs (by rw [hk]; decide), hk]
  · rw [if_neg h] at hk ⊢
    rw [propAt_zero hs hk]
def cntD (L : List (Int × Int × Int)) (d : Int) : Nat := L.countP (fun x => x.2.1 == d)
theorem exp_cnt (m : Nat) (hm : m ≤ n) (d : Nat) : cntD (propsTo n dur ce (dur + 1) 0 p (initL n dur) m) d = if d < m ∧ ce = succK p n d then 1 else 0 := by
  induction m with
  | zero => simp [propsTo, cntD]
  | succ m ih =>
    have hi := ih (by omega)
    rw [propsTo_succ, exp_at (by omega), cntD, List.countP_append]
    rw [cntD] at hi
    rw [hi]
    by_cases h : ce = succK p n m
    · rw [if_pos h]
      by_cases hd : d = m
      · subst hd
        simp [h]
      · have : ((m : Int) == (d : Int)) = false := by simp; omega
        simp only [List.countP_cons, List.countP_nil, this, Bool.false_eq_true, if_false, Nat.add_zero]
        by_cases h2 : d < m ∧ ce = succK p n d
        · rw [if_pos h2, if_pos ⟨by omega, h2.2⟩]
        · rw [if_neg h2, if_neg (by rintro ⟨a, b⟩; exact h2 ⟨by omega, b⟩)]
    · rw [if_neg h, List.countP_nil]
      by_cases hd : d = m
      · subst hd
        rw [if_neg (by omega), if_neg (by rintro ⟨_, b⟩; exact h b)]
      · by_cases h2 : d < m ∧ ce = succK p n d
        · rw [if_pos h2, if_pos ⟨by omega, h2.2⟩]
        · rw [if_neg h2, if_neg (by rintro ⟨a, b⟩; exact h2 ⟨by omega, b⟩)]
theorem exp_all (m : Nat) (hm : m ≤ n) : ∀ x ∈ propsTo n dur ce (dur + 1) 0 p (initL n dur) m, x.1 = 8 ∧ 0 ≤ x.2.1 ∧ x.2.1 < n := by
  induction m with
  | zero => simp [propsTo]
  | succ m ih =>
    intro x hx
    rw [propsTo_succ, exp_at (by omega), List.mem_append] at hx
    rcases hx with hx | hx
    · exact ih (by omega) x hx
    · split at hx
      · simp at hx; subst hx; exact ⟨rfl, by simp, by show (m : Int) < n; omega⟩
      · simp at hx
end
/-- the successor of a district, where somebody is up -/
theorem succ_up {p : Nat → Bool} {n d k : Nat} (hk : k < n) (hp : p k = false) (hd : d < n) : ∃ r : Nat, r < n ∧ succK p n d = (r : Int) ∧ p r = false := by
  cases hf : firstK p n d with
  | some i =>
    have h := hf
    rw [firstK, List.find?_eq_some_iff_append] at h
    refine ⟨(d + i) % n, Nat.mod_lt _ (by omega), by rw [succK, hf], by simpa using h.1⟩
  | none =>
    rw [firstK, List.find?_eq_none] at hf
    have := hf ((k + n - d) % n) (by simp; exact Nat.mod_lt _ (by omega))
    rw [show (d + (k + n - d) % n) % n = k from by rw [Nat.add_mod_mod, show d + (k + n - d) = k + n from by omega, Nat.add_mod_right, Nat.mod_eq_of_lt hk]] at this
    simp [hp] at this
/-- how often each district was proposed by the first k centres that are up -/
def takenC (Lf : Nat → List (Int × Int × Int)) (S : List Int) : Nat → Int → Int
  | 0, _ => 0
  | k + 1, d => takenC Lf S k d + (if inS S k = true then 0 else (cntD (Lf k) d : Int))
def expL (n : Nat) (dur : Int) (S : List Int) (k : Nat) : List (Int × Int × Int) := props n dur k (dur + 1) 0 S (initL n dur)
section
variable {n : Nat} {dur : Int} {S : List Int}
theorem expL_eq (hdur : vL dur = true) {k : Nat} (hk : k < n) (hp : inS S k = false) : expL n dur S k = propsTo n dur k (dur + 1) 0 (inS S) (initL n dur) n := by
  have h := vL_in hdur
  rw [expL, props, if_pos (by simp [okAsk, inB]; omega), sus_in hp, init_len]
theorem taken_lo (k : Nat) (d : Int) : 0 ≤ takenC (expL n dur S) S k d := by
  induction k with
  | zero => simp [takenC]
  | succ k ih => rw [takenC]; split <;> omega
theorem taken_at (hdur : vL dur = true) {k0 : Nat} (hk0 : k0 < n) (hp0 : inS S k0 = false) (d : Nat) (hd : d < n) (k : Nat) (hk : k ≤ n) : takenC (expL n dur S) S k d = if succK (inS S) n d < (k : Int) then 1 else 0 := by
  obtain ⟨r, hr, hR, hpr⟩ := succ_up hk0 hp0 hd
  rw [hR]
  induction k with
  | zero => rw [takenC, if_neg (by omega)]
  | succ k ih =>
    rw [takenC, ih (by omega)]
    cases hp : inS S k
    · rw [expL_eq hdur (by omega) hp, exp_cnt n (Nat.le_refl _) d, hR]
      simp only [Bool.false_eq_true, if_false]
      by_cases h1 : (r : Int) < k
      · rw [if_pos h1, if_neg (by omega), if_pos (by omega)]; rfl
      · rw [if_neg h1]
        by_cases h2 : k = r
        · subst h2
          rw [if_pos ⟨hd, rfl⟩, if_pos (by omega)]; rfl
        · rw [if_neg (by omega), if_neg (by omega)]; rfl
    · have hne : r ≠ k := by rintro rfl; rw [hp] at hpr; cases hpr
      simp only [if_true]
      by_cases h1 : (r : Int) < k
      · rw [if_pos h1, if_pos (by omega)]; rfl
      · rw [if_neg h1, if_neg (by omega)]; rfl
theorem taken_all (hdur : vL dur = true) {k0 : Nat} (hk0 : k0 < n) (hp0 : inS S k0 = false) (d : Nat) (hd : d < n) : takenC (expL n dur S) S n d = 1 := by
  obtain ⟨r, hr, hR, hpr⟩ := succ_up hk0 hp0 hd
  rw [taken_at hdur hk0 hp0 d hd n (Nat.le_refl _), if_pos (by omega)]
theorem cntD_le (L : List (Int × Int × Int)) (d : Int) : cntD L d ≤ L.length := List.countP_le_length
theorem expL_le (k : Nat) : (expL n dur S k).length ≤ n := by
  unfold expL props
  split
  · rw [init_len]; exact propsTo_le _
  · simp
theorem taken_hi (k : Nat) (d : Int) : takenC (expL n dur S) S k d ≤ (k * n : Nat) := by
  induction k with
  | zero => simp [takenC]
  | succ k ih =>
    have h1 := cntD_le (expL n dur S k) d
    have h2 := expL_le (n := n) (dur := dur) (S := S) k
    rw [takenC, Nat.succ_mul]; split <;> omega
theorem expL_all (hdur : vL dur = true) {k : Nat} (hk : k < n) (hp : inS S k = false) : ∀ x ∈ expL n dur S k, x.1 = 8 ∧ 0 ≤ x.2.1 ∧ x.2.1 < n := by
  rw [expL_eq hdur hk hp]; exact exp_all n (Nat.le_refl _)
theorem cntD_snoc {L : List (Int × Int × Int)} {j : Nat} {x : Int × Int × Int} (hx : L[j]? = some x) (d : Int) : cntD (L.take (j + 1)) d = cntD (L.take j) d + (if x.2.1 = d then 1 else 0) := by
  rw [cntD, take_snoc hx, List.countP_append]
  simp [cntD, List.countP_cons]
end
end Go.Proofs.Ytmkcphhgimlkgaa

import Derived.Test.YtnejacmmbfeneaaDoorNsP
namespace Go.Proofs.YtnejacmmbfeneaaDoor

/-! ## How many bits: the sums side by side, plain -/
def fld (k : Nat) : List Nat → Nat
  | [] => 0
  | a :: r => a + 2 ^ k * fld k r
def pairs : List Nat → List Nat
  | a :: b :: r => (a + b) :: pairs r
  | [a] => [a]
  | [] => []
def evens : List Nat → List Nat
  | a :: _ :: r => a :: evens r
  | [a] => [a]
  | [] => []
def mask (k : Nat) : Nat → Nat
  | 0 => 0
  | n + 1 => (2 ^ k - 1) + 2 ^ (2 * k) * mask k n
theorem two_two (k : Nat) : 2 ^ (2 * k) = 2 ^ k * 2 ^ k := by rw [Nat.two_mul, Nat.pow_add]
/-- masking the fields at the even places -/
theorem fld_mask (k : Nat) : ∀ (l : List Nat) (n : Nat), l.length = 2 * n → (∀ x ∈ l, x < 2 ^ k) → fld k l &&& mask k n = fld (2 * k) (evens l)
  | [], n, h, _ => by obtain rfl : n = 0 := by simp at h; omega
                      simp [fld, mask, evens]
  | [a], n, h, _ => by simp at h; omega
  | a :: b :: r, 0, h, _ => by simp at h
  | a :: b :: r, n + 1, h, hx => by
    have ha := hx a (by simp)
    have hb := hx b (by simp)
    have ih := fld_mask k r n (by simp at h; omega) (fun x h => hx x (by simp [h]))
    have e1 : fld k (a :: b :: r) = 2 ^ (2 * k) * fld k r + (a + 2 ^ k * b) := by
      rw [fld, fld, two_two, Nat.mul_add, ← Nat.mul_assoc]; omega
    have hlo : a + 2 ^ k * b < 2 ^ (2 * k) := by
      rw [two_two]
      have : 2 ^ k * b ≤ 2 ^ k * (2 ^ k - 1) := Nat.mul_le_mul_left _ (by omega)
      have h2 : 2 ^ k * (2 ^ k - 1) + 2 ^ k = 2 ^ k * 2 ^ k := by
        rw [← Nat.mul_succ, Nat.succ_eq_add_one, Nat.sub_add_cancel (Nat.two_pow_pos k)]
      omega
    have hml : 2 ^ k - 1 < 2 ^ (2 * k) := by rw [two_two]; have h1 := Nat.two_pow_pos k; have := Nat.le_mul_of_pos_left (2 ^ k) h1; omega
    have e2 : mask k (n + 1) = 2 ^ (2 * k) * mask k n + (2 ^ k - 1) := by rw [mask]; omega
    have e3 : fld (2 * k) (evens (a :: b :: r)) = 2 ^ (2 * k) * fld (2 * k) (evens r) + a := by rw [evens, fld]; omega
    rw [e1, e2, e3, ← ih]
    refine Nat.eq_of_testBit_eq fun j => ?_
    have hal : a < 2 ^ (2 * k) := by omega
    rw [Nat.testBit_and, Nat.testBit_two_pow_mul_add _ hlo, Nat.testBit_two_pow_mul_add _ hml, Nat.testBit_two_pow_mul_add _ hal]
    by_cases hj : j < 2 * k
    · rw [if_pos hj, if_pos hj, if_pos hj]
      have e4 : a + 2 ^ k * b = 2 ^ k * b + a := Nat.add_comm _ _
      rw [e4, Nat.testBit_two_pow_mul_add _ ha, Nat.testBit_two_pow_sub_one]
      by_cases hjk : j < k
      · rw [if_pos hjk]; simp [hjk]
      · rw [if_neg hjk, Nat.testBit_lt_two_pow (Nat.lt_of_lt_of_le ha (Nat.pow_le_pow_right (by decide) (by omega)))]; simp [hjk]
    · rw [if_neg hj, if_neg hj, if_neg hj, Nat.testBit_and]
theorem fld_shift (k : Nat) (a : Nat) (r : List Nat) (ha : a < 2 ^ k) : fld k (a :: r) / 2 ^ k = fld k r := by
  rw [fld, Nat.add_mul_div_left _ _ (Nat.two_pow_pos k), Nat.div_eq_of_lt ha, Nat.zero_add]
theorem fld_snoc_zero (k : Nat) : ∀ l : List Nat, fld k (l ++ [0]) = fld k l
  | [] => by simp [fld]
  | a :: r => by rw [List.cons_append, fld, fld, fld_snoc_zero k r]
theorem fld_add (k : Nat) : ∀ (l m : List Nat), l.length = m.length → fld k l + fld k m = fld k (List.zipWith (· + ·) l m)
  | [], [], _ => rfl
  | a :: r, b :: s, h => by
    have ih := fld_add k r s (by simpa using h)
    rw [List.zipWith_cons_cons, fld, fld, fld, ← ih, Nat.mul_add]; omega
  | [], _ :: _, h => by simp at h
  | _ :: _, [], h => by simp at h
theorem fld_lt (k : Nat) : ∀ (l : List Nat), (∀ x ∈ l, x < 2 ^ k) → fld k l < 2 ^ (k * l.length)
  | [], _ => by simp [fld]
  | a :: r, h => by
    have ih := fld_lt k r (fun x hx => h x (by simp [hx]))
    have ha := h a (by simp)
    rw [fld, List.length_cons, Nat.mul_succ, Nat.pow_add, Nat.mul_comm (2 ^ (k * r.length))]
    have : 2 ^ k * fld k r + 2 ^ k ≤ 2 ^ k * 2 ^ (k * r.length) := by rw [← Nat.mul_succ]; exact Nat.mul_le_mul_left _ ih
    omega
theorem evens_len : ∀ (l : List Nat) (n : Nat), l.length = 2 * n → (evens l).length = n
  | [], n, h => by simp at h; simp [evens]; omega
  | [a], n, h => by simp at h; omega
  | a :: b :: r, n, h => by
    have := evens_len r (n - 1) (by simp at h; omega)
    simp [evens]; simp at h; omega
/-- both halves of a sum: the even places and the odd ones -/
theorem halves : ∀ (l : List Nat) (n : Nat), l.length = 2 * n → List.zipWith (· + ·) (evens (l.drop 1 ++ [0])) (evens l) = pairs l
  | [], n, h => by simp [evens, pairs]
  | [a], n, h => by simp at h; omega
  | a :: b :: r, n, h => by
    have ih := halves r (n - 1) (by simp at h; omega)
    cases r with
    | nil => simp [evens, pairs, Nat.add_comm]
    | cons c r =>
      simp only [List.drop_succ_cons, List.drop_zero, List.cons_append, evens, List.zipWith_cons_cons, pairs] at ih ⊢
      rw [ih, Nat.add_comm b a]
theorem pairs_sum : ∀ l : List Nat, (pairs l).sum = l.sum
  | [] => rfl
  | [a] => rfl
  | a :: b :: r => by rw [pairs, List.sum_cons, pairs_sum r, List.sum_cons, List.sum_cons]; omega
theorem pairs_len : ∀ (l : List Nat) (n : Nat), l.length = 2 * n → (pairs l).length = n
  | [], n, h => by simp at h; simp [pairs]; omega
  | [a], n, h => by simp at h; omega
  | a :: b :: r, n, h => by
    have := pairs_len r (n - 1) (by simp at h; omega)
    simp [pairs]; simp at h; omega
theorem pairs_le {m : Nat} : ∀ l : List Nat, (∀ x ∈ l, x ≤ m) → ∀ x ∈ pairs l, x ≤ 2 * m
  | [], _, x, hx => by simp [pairs] at hx
  | [a], h, x, hx => by simp [pairs] at hx; subst hx; have := h x (by simp); omega
  | a :: b :: r, h, x, hx => by
    simp only [pairs, List.mem_cons] at hx
    rcases hx with rfl | hx
    · have h1 := h a (by simp); have h2 := h b (by simp); omega
    · exact pairs_le r (fun y hy => h y (by simp [hy])) x hx
/-- one step: the neighbours are added -/
theorem pop_step {k n m : Nat} (l : List Nat) (hl : l.length = 2 * n) (hm : ∀ x ∈ l, x ≤ m) (hk : m < 2 ^ k) : ((fld k l / 2 ^ k) &&& mask k n) + (fld k l &&& mask k n) = fld (2 * k) (pairs l) := by
  have hlt : ∀ x ∈ l, x < 2 ^ k := fun x h => Nat.lt_of_le_of_lt (hm x h) hk
  cases l with
  | nil => obtain rfl : n = 0 := by simp at hl; omega
           simp [fld, pairs, mask]
  | cons a r =>
    rw [fld_shift k a r (hlt a (by simp)), fld_mask k (a :: r) n hl hlt, ← fld_snoc_zero k r, fld_mask k (r ++ [0]) n (by simp at hl ⊢; omega) (fun x h => by
      rw [List.mem_append] at h
      rcases h with h | h
      · exact hlt x (by simp [h])
      · simp at h; rw [h]; exact Nat.two_pow_pos k), fld_add _ _ _ (by rw [evens_len (r ++ [0]) n (by simp at hl ⊢; omega), evens_len (a :: r) n hl])]
    have := halves (a :: r) n hl
    simp only [List.drop_succ_cons, List.drop_zero] at this
    rw [this]
theorem evens_zip : ∀ (l m : List Nat), l.length = m.length → evens (List.zipWith (· + ·) l m) = List.zipWith (· + ·) (evens l) (evens m)
  | [], [], _ => rfl
  | [a], [b], _ => rfl
  | a :: a' :: r, b :: b' :: s, h => by
    have := evens_zip r s (by simpa using h)
    simp [evens, this]
  | [], _ :: _, h => by simp at h
  | _ :: _, [], h => by simp at h
  | [_], _ :: _ :: _, h => by simp at h
  | _ :: _ :: _, [_], h => by simp at h
def bl (w n : Nat) : List Nat := (List.range n).map (fun j => (w.testBit j).toNat)
theorem bl_succ (w n : Nat) : bl w (n + 1) = (w % 2) :: bl (w / 2) n := by
  rw [bl, List.range_succ_eq_map, List.map_cons, List.map_map, bl]
  congr 1
  · rw [Nat.testBit_zero]; rcases Nat.mod_two_eq_zero_or_one w with h | h <;> simp [h]
  · refine List.map_congr_left fun j _ => ?_
    simp [Nat.testBit_succ]
theorem bl_fld : ∀ (n w : Nat), w < 2 ^ n → fld 1 (bl w n) = w
  | 0, w, h => by simp at h; subst h; simp [bl, fld]
  | n + 1, w, h => by rw [bl_succ, fld, bl_fld n (w / 2) (by rw [Nat.pow_succ] at h; omega)]; omega
theorem bl_sum (w n : Nat) : (bl w n).sum = ((List.range n).filter w.testBit).length := by
  induction n with
  | zero => simp [bl]
  | succ n ih =>
    rw [bl, List.range_succ, List.map_append, List.sum_append, List.filter_append, List.length_append, ← ih, bl]
    cases h : w.testBit n <;> simp [h]
theorem bl_le (w n : Nat) : ∀ x ∈ bl w n, x ≤ 1 := by
  intro x hx
  simp only [bl, List.mem_map] at hx
  obtain ⟨j, _, rfl⟩ := hx
  cases w.testBit j <;> simp
theorem bl_len (w n : Nat) : (bl w n).length = n := by simp [bl]
def pop1 (x : Nat) : Nat := ((x / 2) &&& 6148914691236517205) + (x &&& 6148914691236517205)
def pop2 (x : Nat) : Nat := ((x / 4) &&& 3689348814741910323) + (x &&& 3689348814741910323)
def pop3 (x : Nat) : Nat := ((x / 16) + x) &&& 1085102592571150095
theorem pop_123 (w : Nat) (h : w < 18446744073709551616) : pop1 w < 18446744073709551616 ∧ pop2 (pop1 w) < 18446744073709551616 ∧ pop2 (pop1 w) / 16 + pop2 (pop1 w) < 18446744073709551616 ∧
    ∃ c0 c1 c2 c3 c4 c5 c6 c7 : Nat, c0 + c1 + c2 + c3 + c4 + c5 + c6 + c7 = (bitsL w).length ∧ c0 ≤ 8 ∧ c1 ≤ 8 ∧ c2 ≤ 8 ∧ c3 ≤ 8 ∧ c4 ≤ 8 ∧ c5 ≤ 8 ∧ c6 ≤ 8 ∧ c7 ≤ 8 ∧
      pop3 (pop2 (pop1 w)) = c0 + 256 * (c1 + 256 * (c2 + 256 * (c3 + 256 * (c4 + 256 * (c5 + 256 * (c6 + 256 * c7)))))) := by
  have e1 : pop1 w = fld 2 (pairs (bl w 64)) := by
    have := pop_step (k := 1) (n := 32) (m := 1) (bl w 64) (by rw [bl_len]) (bl_le w 64) (by decide)
    rw [bl_fld 64 w h] at this
    exact this
  have l2 := pairs_len (bl w 64) 32 (by rw [bl_len])
  have b2 := pairs_le (m := 1) _ (bl_le w 64)
  have e2 : pop2 (pop1 w) = fld 4 (pairs (pairs (bl w 64))) := by
    rw [e1]
    exact pop_step (k := 2) (n := 16) (m := 2) _ (by rw [l2]) b2 (by decide)
  have l4 := pairs_len _ 16 (show (pairs (bl w 64)).length = 2 * 16 by rw [l2])
  have b4 := pairs_le (m := 2) _ b2
  generalize hL4 : pairs (pairs (bl w 64)) = L4 at *
  have hsum : L4.sum = (bitsL w).length := by rw [← hL4, pairs_sum, pairs_sum, bl_sum]; rfl
  have l8 := pairs_len L4 8 (by rw [l4])
  have b8 := pairs_le (m := 4) _ b4
  have hsum8 : (pairs L4).sum = (bitsL w).length := by rw [pairs_sum, hsum]
  have h1 : pop1 w < 2 ^ (2 * 32) := by
    rw [e1]
    have := fld_lt 2 (pairs (bl w 64)) (fun x hx => by have := b2 x hx; omega)
    rwa [l2] at this
  have h2 : pop2 (pop1 w) < 2 ^ (4 * 16) := by
    rw [e2]
    have := fld_lt 4 L4 (fun x hx => by have := b4 x hx; omega)
    rwa [l4] at this
  have h3 : pop2 (pop1 w) / 16 + pop2 (pop1 w) = fld 4 (List.zipWith (· + ·) (L4.drop 1 ++ [0]) L4) := by
    rw [e2]
    cases L4 with
    | nil => simp at l4
    | cons a r =>
      have hs := fld_shift 4 a r (by have := b4 a (by simp); omega)
      rw [show (2 : Nat) ^ 4 = 16 from rfl] at hs
      rw [hs, ← fld_snoc_zero 4 r, List.drop_succ_cons, List.drop_zero, fld_add _ _ _ (by simp)]
  have hz : ∀ x ∈ List.zipWith (· + ·) (L4.drop 1 ++ [0]) L4, x < 2 ^ 4 := by
    intro x hx
    obtain ⟨i, hi, rfl⟩ := List.getElem_of_mem hx
    rw [List.getElem_zipWith]
    have hb : L4[i]'(by simp at hi; omega) ≤ 4 := b4 _ (List.getElem_mem (l := L4) (n := i) (by simp at hi; omega))
    have ha : (L4.drop 1 ++ [0])[i]'(by simp at hi ⊢; omega) ≤ 4 := by
      have := List.getElem_mem (l := L4.drop 1 ++ [0]) (n := i) (by simp at hi ⊢; omega)
      rw [List.mem_append] at this
      rcases this with h | h
      · exact b4 _ (List.mem_of_mem_drop h)
      · rw [List.mem_singleton.1 h]; omega
    show (L4.drop 1 ++ [0])[i]'(by simp at hi ⊢; omega) + L4[i]'(by simp at hi; omega) < 16
    omega
  have lz : (List.zipWith (· + ·) (L4.drop 1 ++ [0]) L4).length = 2 * 8 := by simp [l4]
  have h4 := fld_lt 4 _ hz
  rw [lz, ← h3] at h4
  have e3 : pop3 (pop2 (pop1 w)) = fld 8 (pairs L4) := by
    rw [pop3, h3]
    have hm := fld_mask 4 _ 8 lz hz
    rw [evens_zip _ _ (by simp; omega), halves L4 8 (by rw [l4])] at hm
    exact hm
  refine ⟨h1, h2, h4, ?_⟩
  match hp : pairs L4, l8 with
  | [c0, c1, c2, c3, c4, c5, c6, c7], _ =>
    rw [hp] at e3 hsum8 b8
    refine ⟨c0, c1, c2, c3, c4, c5, c6, c7, by rw [← hsum8]; simp; omega, b8 c0 (by simp), b8 c1 (by simp), b8 c2 (by simp), b8 c3 (by simp), b8 c4 (by simp), b8 c5 (by simp), b8 c6 (by simp), b8 c7 (by simp), ?_⟩
    rw [e3]; simp [fld]
end Go.Proofs.YtnejacmmbfeneaaDoor

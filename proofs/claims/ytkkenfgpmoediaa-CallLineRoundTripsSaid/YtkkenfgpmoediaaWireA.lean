import Derived.Lib.Varint
namespace Go.Proofs.Ytkkenfgpmoediaa
open Go

/-! ## The encoding of integers, in plain Lean -/
def unzig (u : Nat) : Int := if u % 2 = 0 then ((u / 2 : Nat) : Int) else -((u / 2 : Nat) : Int) - 1
theorem unzig_zigzag (n : Int) : unzig (Lib.zigzag n) = n := by
  unfold unzig Lib.zigzag
  by_cases h : 0 ≤ n
  · rw [if_pos h, if_pos (by omega)]; omega
  · rw [if_neg h, if_neg (by omega)]; omega
theorem zigzag_unzig (u : Nat) : Lib.zigzag (unzig u) = u := by
  unfold unzig Lib.zigzag
  by_cases h : u % 2 = 0
  · rw [if_pos h, if_pos (by omega)]; omega
  · rw [if_neg h, if_neg (by omega)]; omega
def i64ok (n : Int) : Prop := -9223372036854775808 ≤ n ∧ n ≤ 9223372036854775807
theorem zigzag_ok {n : Int} (h : i64ok n) : Lib.zigzag n < 18446744073709551616 := by
  unfold i64ok at h; unfold Lib.zigzag; split <;> omega
theorem unzig_ok {u : Nat} (h : u < 18446744073709551616) : i64ok (unzig u) := by
  unfold i64ok unzig; split <;> omega
def encI (n : Int) : List UInt8 := Lib.uvarint (Lib.zigzag n)
theorem encI_pos (n : Int) : 1 ≤ (encI n).length := Lib.uvarint_pos _
theorem encI_le {n : Int} (h : i64ok n) : (encI n).length ≤ 10 := Lib.uvarint_length64 (zigzag_ok h)

/-- Digits are read: the number, the rest, the error. -/
def rdU : Nat → Nat → List UInt8 → Nat × List UInt8 × Int
  | _, _, [] => (0, [], 11)
  | i, acc, b :: r => if (i = 9 ∧ ¬ b.toNat = 1) ∨ (0 < i ∧ b.toNat = 0) then (0, [], 2)
    else if b.toNat < 128 then (acc + b.toNat * 128 ^ i, r, 0) else rdU (i + 1) (acc + b.toNat % 128 * 128 ^ i) r

theorem u8_small {x : Nat} (h : x < 256) : x.toUInt8.toNat = x := by
  rw [Nat.toUInt8, UInt8.toNat_ofNat']; omega
theorem rdU_enc : ∀ (i x acc : Nat) (r : List UInt8), i ≤ 9 → x * 128 ^ i < 18446744073709551616 → (0 < i → 0 < x) → rdU i acc (Lib.uvarint x ++ r) = (acc + x * 128 ^ i, r, 0)
  | i, x, acc, r, hi, hx, h0 => by
    by_cases hs : x < 128
    · rw [Lib.uvarint_small hs, List.singleton_append]
      have hb : x.toUInt8.toNat = x := u8_small (by omega)
      have h9 : i = 9 → x = 1 := by
        rintro rfl
        have := h0 (by omega)
        have e : (128 : Nat) ^ 9 = 9223372036854775808 := by decide
        rw [e] at hx
        omega
      unfold rdU
      have hn : ¬ ((i = 9 ∧ ¬ x = 1) ∨ (0 < i ∧ x = 0)) := by
        rintro (⟨a, b⟩ | ⟨a, b⟩)
        · exact b (h9 a)
        · have := h0 a; omega
      rw [hb, if_neg hn, if_pos hs]
    · rw [Lib.uvarint_big (by omega), List.cons_append]
      have hb : (x % 128 + 128).toUInt8.toNat = x % 128 + 128 := u8_small (by omega)
      have hi9 : i ≠ 9 := by
        rintro rfl
        have e : (128 : Nat) ^ 9 = 9223372036854775808 := by decide
        rw [e] at hx
        omega
      have hp : 128 ^ (i + 1) = 128 ^ i * 128 := Nat.pow_succ ..
      have hq : x / 128 * 128 ^ (i + 1) ≤ x * 128 ^ i := by
        rw [hp, Nat.mul_comm (128 ^ i) 128, ← Nat.mul_assoc]
        exact Nat.mul_le_mul_right _ (Nat.div_mul_le_self x 128)
      unfold rdU
      rw [hb, if_neg (by omega), if_neg (by omega), show (x % 128 + 128) % 128 = x % 128 by omega, rdU_enc (i + 1) (x / 128) _ r (by omega) (by omega) (by omega)]
      congr 1
      rw [hp, Nat.mul_comm (128 ^ i) 128, ← Nat.mul_assoc, Nat.add_assoc, ← Nat.add_mul]
      congr 2
      omega
  termination_by _ x => x
  decreasing_by omega

theorem digit_lt (i x c : Nat) (hi : i ≤ 8) (hc : c < 128) (hlt : x * 128 ^ (i + 1) < 18446744073709551616) : (x * 128 + c) * 128 ^ i < 18446744073709551616 := by
  have key : ∀ p q : Nat, 18446744073709551616 = q * (p * 128) → x * (p * 128) < 18446744073709551616 → (x * 128 + c) * p < 18446744073709551616 := by
    intro p q hq h
    have hp : 0 < p := Nat.pos_of_ne_zero (by rintro rfl; omega)
    rw [hq] at h
    have hx : x < q := Nat.lt_of_mul_lt_mul_right h
    have h1 : (x * 128 + c + 1) * p ≤ q * 128 * p := Nat.mul_le_mul_right _ (by omega)
    have h2 : q * 128 * p = 18446744073709551616 := by rw [hq, Nat.mul_assoc, Nat.mul_comm 128 p]
    have h3 : (x * 128 + c + 1) * p = (x * 128 + c) * p + p := by rw [Nat.add_mul, Nat.one_mul]
    omega
  have h8 : i = 0 ∨ i = 1 ∨ i = 2 ∨ i = 3 ∨ i = 4 ∨ i = 5 ∨ i = 6 ∨ i = 7 ∨ i = 8 := by omega
  have hs : 128 ^ (i + 1) = 128 ^ i * 128 := Nat.pow_succ ..
  rw [hs] at hlt
  rcases h8 with rfl | rfl | rfl | rfl | rfl | rfl | rfl | rfl | rfl
  · exact key _ 144115188075855872 (by decide) hlt
  · exact key _ 1125899906842624 (by decide) hlt
  · exact key _ 8796093022208 (by decide) hlt
  · exact key _ 68719476736 (by decide) hlt
  · exact key _ 536870912 (by decide) hlt
  · exact key _ 4194304 (by decide) hlt
  · exact key _ 32768 (by decide) hlt
  · exact key _ 256 (by decide) hlt
  · exact key _ 2 (by decide) hlt
/-- What is read without an error is the number's encoding. -/
theorem rdU_canon : ∀ (l : List UInt8) (i acc u : Nat) (r : List UInt8), i ≤ 9 → rdU i acc l = (u, r, 0) → ∃ x, l = Lib.uvarint x ++ r ∧ u = acc + x * 128 ^ i ∧ (0 < i → 0 < x) ∧ x * 128 ^ i < 18446744073709551616
  | [], i, acc, u, r, _, h => by simp [rdU] at h
  | b :: l, i, acc, u, r, hi, h => by
    unfold rdU at h
    have hp9 : (128 : Nat) ^ i ≤ 128 ^ 9 := Nat.pow_le_pow_right (by decide) hi
    have e9 : (128 : Nat) ^ 9 = 9223372036854775808 := by decide
    have hb := b.toNat_lt
    by_cases h1 : (i = 9 ∧ ¬ b.toNat = 1) ∨ (0 < i ∧ b.toNat = 0)
    · rw [if_pos h1] at h; simp at h
    · rw [if_neg h1] at h
      by_cases h2 : b.toNat < 128
      · rw [if_pos h2] at h
        simp only [Prod.mk.injEq, and_true] at h
        obtain ⟨rfl, rfl⟩ := h
        refine ⟨b.toNat, ?_, rfl, by omega, ?_⟩
        · rw [Lib.uvarint_small h2]; simp
        · by_cases h9 : i = 9
          · have : b.toNat = 1 := by omega
            rw [this, h9, e9]; omega
          · have h8 : (128 : Nat) ^ i ≤ 128 ^ 8 := Nat.pow_le_pow_right (by decide) (by omega)
            have e8 : (128 : Nat) ^ 8 = 72057594037927936 := by decide
            calc b.toNat * 128 ^ i ≤ 128 * 72057594037927936 := Nat.mul_le_mul (by omega) (by omega)
              _ < _ := by decide
      · rw [if_neg h2] at h
        have hi9 : i ≠ 9 := by omega
        obtain ⟨x, rfl, rfl, hx, hlt⟩ := rdU_canon l (i + 1) _ u r (by omega) h
        have hx := hx (by omega)
        have hp : 128 ^ (i + 1) = 128 ^ i * 128 := Nat.pow_succ ..
        refine ⟨x * 128 + b.toNat % 128, ?_, ?_, by omega, ?_⟩
        · rw [Lib.uvarint_big (x := x * 128 + b.toNat % 128) (by omega), List.cons_append, show (x * 128 + b.toNat % 128) / 128 = x by omega, show (x * 128 + b.toNat % 128) % 128 + 128 = b.toNat by omega]
          congr 1
          exact (UInt8.toNat_inj.1 (by rw [u8_small hb]))
        · rw [hp, Nat.add_mul, Nat.mul_comm (128 ^ i) 128, ← Nat.mul_assoc]; omega
        · have hc : b.toNat % 128 < 128 := Nat.mod_lt _ (by decide)
          exact digit_lt i x _ (by omega) hc hlt

/-- A beginning of an encoding that is not the whole ends too early. -/
theorem rdU_cut : ∀ (x k i acc : Nat), k < (Lib.uvarint x).length → i ≤ 9 → x * 128 ^ i < 18446744073709551616 → (0 < i → 0 < x) → rdU i acc ((Lib.uvarint x).take k) = (0, [], 11)
  | x, 0, i, acc, _, _, _, _ => by simp [rdU]
  | x, k + 1, i, acc, hk, hi, hx, h0 => by
    by_cases hs : x < 128
    · rw [Lib.uvarint_small hs] at hk; simp at hk
    · rw [Lib.uvarint_big (by omega), List.length_cons] at hk
      rw [Lib.uvarint_big (by omega), List.take_succ_cons]
      have hb : (x % 128 + 128).toUInt8.toNat = x % 128 + 128 := u8_small (by omega)
      have hi9 : i ≠ 9 := by
        rintro rfl
        have e : (128 : Nat) ^ 9 = 9223372036854775808 := by decide
        rw [e] at hx
        omega
      have hp : 128 ^ (i + 1) = 128 ^ i * 128 := Nat.pow_succ ..
      have hq : x / 128 * 128 ^ (i + 1) ≤ x * 128 ^ i := by
        rw [hp, Nat.mul_comm (128 ^ i) 128, ← Nat.mul_assoc]
        exact Nat.mul_le_mul_right _ (Nat.div_mul_le_self x 128)
      unfold rdU
      rw [hb, if_neg (by omega), if_neg (by omega)]
      exact rdU_cut (x / 128) k (i + 1) _ (by omega) (by omega) (by omega) (by omega)
theorem rdU_err : ∀ (l : List UInt8) (i acc u : Nat) (r : List UInt8) (e : Int), rdU i acc l = (u, r, e) → ¬ e = 0 → u = 0 ∧ r = [] ∧ (e = 11 ∨ e = 2)
  | [], i, acc, u, r, e, h, he => by simp [rdU] at h; obtain ⟨rfl, rfl, rfl⟩ := h; simp
  | b :: l, i, acc, u, r, e, h, he => by
    unfold rdU at h
    split at h
    · simp at h; obtain ⟨rfl, rfl, rfl⟩ := h; simp
    · split at h
      · simp at h; omega
      · exact rdU_err l _ _ _ _ _ h he

/-! ## A reader, in plain Lean -/
structure RS where
  rest : List UInt8
  err : Int
def rdInt (s : RS) : Int × RS :=
  if ¬ s.err = 0 then (0, s) else if (rdU 0 0 s.rest).2.2 = 0 then (unzig (rdU 0 0 s.rest).1, ⟨(rdU 0 0 s.rest).2.1, 0⟩) else (0, ⟨[], (rdU 0 0 s.rest).2.2⟩)
theorem rdInt_err {s : RS} (h : ¬ s.err = 0) : rdInt s = (0, s) := by unfold rdInt; rw [if_pos h]
theorem rdInt_enc {n : Int} (h : i64ok n) (r : List UInt8) : rdInt ⟨encI n ++ r, 0⟩ = (n, ⟨r, 0⟩) := by
  have := rdU_enc 0 (Lib.zigzag n) 0 r (by omega) (by simpa using zigzag_ok h) (by omega)
  unfold rdInt encI
  simp only [this, not_true_eq_false, if_false, if_true]
  simp [unzig_zigzag]
theorem rdInt_canon {l r : List UInt8} {n : Int} (h : rdInt ⟨l, 0⟩ = (n, ⟨r, 0⟩)) : l = encI n ++ r ∧ i64ok n := by
  unfold rdInt at h
  simp only [not_true_eq_false, if_false] at h
  split at h
  · rename_i he
    obtain ⟨u, r', e, hu⟩ : ∃ u r' e, rdU 0 0 l = (u, r', e) := ⟨_, _, _, rfl⟩
    rw [hu] at h he
    simp only at he
    subst he
    simp only [Prod.mk.injEq, RS.mk.injEq, and_true] at h
    obtain ⟨rfl, rfl⟩ := h
    obtain ⟨x, rfl, rfl, _, hx⟩ := rdU_canon l 0 0 u r' (by omega) hu
    simp only [Nat.pow_zero, Nat.mul_one, Nat.zero_add] at hx ⊢
    exact ⟨by rw [encI, zigzag_unzig], unzig_ok hx⟩
  · rename_i he
    simp only [Prod.mk.injEq, RS.mk.injEq] at h
    exact absurd h.2.2 he
theorem rdInt_cut {n : Int} (h : i64ok n) {k : Nat} (hk : k < (encI n).length) : rdInt ⟨(encI n).take k, 0⟩ = (0, ⟨[], 11⟩) := by
  have := rdU_cut (Lib.zigzag n) k 0 0 hk (by omega) (by simpa using zigzag_ok h) (by omega)
  unfold rdInt encI
  simp [this]
/-- what an error leaves -/
theorem rdInt_bad {s : RS} (h : ¬ (rdInt s).2.err = 0) : (rdInt s).1 = 0 := by
  unfold rdInt at h ⊢
  split
  · rfl
  · rename_i h0
    rw [if_neg h0] at h
    split
    · rename_i h1; rw [if_pos h1] at h; simp at h
    · rfl
end Go.Proofs.Ytkkenfgpmoediaa

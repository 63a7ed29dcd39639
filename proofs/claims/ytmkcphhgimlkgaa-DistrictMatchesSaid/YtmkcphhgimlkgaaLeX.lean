import Derived.Test.YtmkcphhgimlkgaaLeB
import Derived.Laws.BitsAllLaws
namespace Go.Proofs.Ytmkcphhgimlkgaa
open Go.RowKit

def pw : Nat → Int
  | 0 => 1
  | k + 1 => pw k * 2
theorem pw_in : ∀ k, 1 ≤ pw k
  | 0 => by decide
  | k + 1 => by have := pw_in k; rw [pw]; omega
/-- the exclusive or of the lowest k bits, bit by bit-/
def xl (a b : Int) : Nat → Int
  | 0 => 0
  | k + 1 => xl a b k + if a / pw k % 2 = b / pw k % 2 then 0 else pw k
theorem xl_in (a b : Int) : ∀ k, 0 ≤ xl a b k ∧ xl a b k < pw k
  | 0 => by simp [xl, pw]
  | k + 1 => by
    have h := xl_in a b k
    have := pw_in k
    rw [xl, pw]
    split <;> omega
def xlN (a b : Nat) : Nat → Nat
  | 0 => 0
  | k + 1 => xlN a b k + if a / 2 ^ k % 2 = b / 2 ^ k % 2 then 0 else 2 ^ k
theorem pw_nat : ∀ k : Nat, pw k = ((2 ^ k : Nat) : Int)
  | 0 => rfl
  | k + 1 => by rw [pw, pw_nat k, Nat.pow_succ]; omega
theorem xl_nat (a b : Nat) : ∀ k, xl a b k = (xlN a b k : Nat)
  | 0 => rfl
  | k + 1 => by
    rw [xl, xlN, xl_nat a b k, pw_nat]
    have e : ((a : Int) / ((2 ^ k : Nat) : Int) % 2 = (b : Int) / ((2 ^ k : Nat) : Int) % 2) ↔ (a / 2 ^ k % 2 = b / 2 ^ k % 2) := by
      rw [← Int.natCast_ediv, ← Int.natCast_ediv]; omega
    by_cases h : a / 2 ^ k % 2 = b / 2 ^ k % 2
    · rw [if_pos h, if_pos (e.2 h)]; omega
    · rw [if_neg h, if_neg (fun h' => h (e.1 h'))]; omega
theorem xlN_eq (a b : Nat) : ∀ k, xlN a b k = (a % 2 ^ k) ^^^ (b % 2 ^ k)
  | 0 => by simp [xlN, Nat.mod_one]
  | k + 1 => by
    rw [xlN, xlN_eq a b k]
    have ha := Nat.mod_lt a (Nat.two_pow_pos k)
    have hb := Nat.mod_lt b (Nat.two_pow_pos k)
    have hx : (a % 2 ^ k) ^^^ (b % 2 ^ k) < 2 ^ k := Nat.xor_lt_two_pow ha hb
    have ma : a % 2 ^ (k + 1) = 2 ^ k * (a / 2 ^ k % 2) + a % 2 ^ k := by
      rw [Nat.pow_succ, Nat.mod_mul]; omega
    have mb : b % 2 ^ (k + 1) = 2 ^ k * (b / 2 ^ k % 2) + b % 2 ^ k := by
      rw [Nat.pow_succ, Nat.mod_mul]; omega
    have hd : (a % 2 ^ (k + 1) ^^^ b % 2 ^ (k + 1)) / 2 ^ k = (a / 2 ^ k % 2) ^^^ (b / 2 ^ k % 2) := by
      rw [Nat.xor_div_two_pow, ma, mb, Nat.mul_add_div (Nat.two_pow_pos k), Nat.mul_add_div (Nat.two_pow_pos k), Nat.div_eq_of_lt ha, Nat.div_eq_of_lt hb]; simp
    have hm : (a % 2 ^ (k + 1) ^^^ b % 2 ^ (k + 1)) % 2 ^ k = (a % 2 ^ k) ^^^ (b % 2 ^ k) := by
      rw [Nat.xor_mod_two_pow, ma, mb, Nat.mul_add_mod, Nat.mul_add_mod, Nat.mod_mod, Nat.mod_mod]
    have hs := Nat.div_add_mod (a % 2 ^ (k + 1) ^^^ b % 2 ^ (k + 1)) (2 ^ k)
    rw [hd, hm] at hs
    rw [← hs]
    have h2a := Nat.mod_lt (a / 2 ^ k) (show 0 < 2 by decide)
    have h2b := Nat.mod_lt (b / 2 ^ k) (show 0 < 2 by decide)
    generalize a / 2 ^ k % 2 = p at *
    generalize b / 2 ^ k % 2 = q at *
    match p, q, h2a, h2b with
    | 0, 0, _, _ => simp
    | 0, 1, _, _ => simp; omega
    | 1, 0, _, _ => simp; omega
    | 1, 1, _, _ => simp
/-- one byte: the reference's way comes to the same-/
theorem step_xor (s b : Int) (h0 : 0 ≤ s) (h1 : s ≤ 18446744073709551615) (b0 : 0 ≤ b) (b1 : b ≤ 255) : s - s % 256 + xl (s % 256) b 8 = bits BinOp.xor IntKind.u64 s b := by
  obtain ⟨S, rfl⟩ := Int.eq_ofNat_of_zero_le h0
  obtain ⟨B, rfl⟩ := Int.eq_ofNat_of_zero_le b0
  rw [u64_xor_nat S B (by omega) (by omega)]
  have e : ((S : Int) % 256) = ((S % 256 : Nat) : Int) := by omega
  rw [e, xl_nat, xlN_eq]
  have hB : B % 2 ^ 8 = B := Nat.mod_eq_of_lt (by omega)
  have hS : S % 256 % 2 ^ 8 = S % 256 := Nat.mod_eq_of_lt (by omega)
  rw [hB, hS]
  have hd : (S ^^^ B) / 2 ^ 8 = S / 2 ^ 8 := by rw [Nat.xor_div_two_pow, Nat.div_eq_of_lt (show B < 2 ^ 8 by omega)]; simp
  have hm : (S ^^^ B) % 2 ^ 8 = (S % 256) ^^^ B := by rw [Nat.xor_mod_two_pow, hB]
  have hs := Nat.div_add_mod (S ^^^ B) (2 ^ 8)
  have hS2 := Nat.div_add_mod S (2 ^ 8)
  rw [hd, hm] at hs
  omega
end Go.Proofs.Ytmkcphhgimlkgaa

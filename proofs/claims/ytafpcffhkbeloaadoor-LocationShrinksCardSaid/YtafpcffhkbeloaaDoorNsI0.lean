import Derived.Laws.Bits64b
import Derived.Test.YtafpcffhkbeloaaDoorNsQ
namespace Go.Proofs.YtafpcffhkbeloaaDoor
theorem bv_andnot (x y : BitVec 64) : (x &&& ~~~y).toNat = x.toNat ^^^ (x.toNat &&& y.toNat) := by
  refine Nat.eq_of_testBit_eq fun j => ?_
  rw [Nat.testBit_xor, Nat.testBit_and, BitVec.testBit_toNat, BitVec.testBit_toNat, BitVec.testBit_toNat, BitVec.getLsbD_and, BitVec.getLsbD_not]
  by_cases hj : j < 64
  · simp only [hj, decide_true, Bool.true_and]
    cases x.getLsbD j <;> cases y.getLsbD j <;> rfl
  · rw [BitVec.getLsbD_of_ge x j (by omega)]; rfl
def notN (x y : Nat) : Nat := x ^^^ (x &&& y)
theorem notN_le (x y : Nat) (h : x < 18446744073709551616) : notN x y < 18446744073709551616 := Nat.xor_lt_two_pow (n := 64) h (and_lt h)
theorem bits_andnot_u64_nat (a b : Nat) (ha : a < 18446744073709551616) (hb : b < 18446744073709551616) : bits .andNot .u64 (a : Int) (b : Int) = ((notN a b : Nat) : Int) := by
  have h1 : (BitVec.ofInt 64 (a : Int)).toNat = a := by
    rw [BitVec.ofInt_natCast, BitVec.toNat_ofNat]; exact Nat.mod_eq_of_lt (by omega)
  have h2 : (BitVec.ofInt 64 (b : Int)).toNat = b := by
    rw [BitVec.ofInt_natCast, BitVec.toNat_ofNat]; exact Nat.mod_eq_of_lt (by omega)
  have hx := notN_le a b ha
  show IntKind.u64.wrap ((BitVec.ofInt 64 (a : Int) &&& ~~~BitVec.ofInt 64 (b : Int)).toNat : Int) = _
  rw [bv_andnot, h1, h2, IntKind.wrap_u64]
  rw [notN] at hx ⊢
  generalize a ^^^ (a &&& b) = p at *
  omega
def diffW (a b : List Nat) : List Nat := List.zipWith notN a b
theorem diffW_ok {a b : List Nat} (ha : OkW a) (hb : OkW b) : OkW (diffW a b) := zip_ok ha hb fun x y h => notN_le x y h
theorem diffW_mem {a b : List Nat} (ha : OkW a) (hb : OkW b) (n : Nat) (hn : n < 4096) : memW (diffW a b) n = (memW a n && !memW b n) := zip_mem ha hb (g := fun p q => p && !q) (fun x y j => by
  rw [notN, Nat.testBit_xor, Nat.testBit_and]; cases x.testBit j <;> cases y.testBit j <;> rfl) n hn
end Go.Proofs.YtafpcffhkbeloaaDoor

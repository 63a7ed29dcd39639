import Derived.Lib.TrailingZeros
import Derived.Test.YtnejacmmbfeneaaDoorNsE
namespace Go.Proofs.YtnejacmmbfeneaaDoor
open Go.RowKit

/-! ## math/bits' table, and TrailingZeros64 -/
def Tab (w : World) : Prop := ∀ i, i < 64 → w.cell? ⟨0, i, none⟩ = some (.int .u8 ((Lib.deBruijn64tab.getD i 0 : Nat) : Int))
theorem tz_plain (x : Nat) (h0 : x ≠ 0) (h : x < 18446744073709551616) : ∃ k i : Nat, k = Lib.ctz 64 x ∧ k < 64 ∧ i < 64 ∧ Lib.deBruijn64tab.getD i 0 = k ∧
    IntKind.u64.wrap (-(x : Int)) = ((18446744073709551616 - x : Nat) : Int) ∧ bits .and .u64 (x : Int) ((18446744073709551616 - x : Nat) : Int) = ((2 ^ k : Nat) : Int) ∧
    IntKind.u64.wrap (((2 ^ k : Nat) : Int) * 285870213051353865) / 288230376151711744 = (i : Int) := by
  obtain ⟨e, hk⟩ := Lib.lowest_bit 64 x h0 h
  obtain ⟨h1, h2⟩ := Lib.deBruijn64_at _ hk
  refine ⟨_, _, rfl, hk, h1, h2, ?_, ?_, ?_⟩
  · rw [IntKind.wrap_u64]; omega
  · rw [bits_and_u64_nat x _ h (by omega)]; exact congrArg _ e
  · generalize 2 ^ Lib.ctz 64 x = p
    rw [IntKind.wrap_u64]; omega
set_option maxRecDepth 100000 in
set_option maxHeartbeats 4000000 in
theorem tz_any (w : World) (hT : Tab w) (x : Nat) (h0 : x ≠ 0) (hx : x < 18446744073709551616) : Calls Tryd.prog 40 #[.int .u64 x] w fun e w' => e = .returned (.int .i64 (Lib.ctz 64 x : Nat)) ∧ w' = w := by
  obtain ⟨k, i, hk, hk64, hi, hd, e1, e2, e3⟩ := tz_plain x h0 hx
  have hc := hT i hi
  rw [hd] at hc
  rw [← hk]
  have hz : ((x : Int) == 0) = false := by simp; exact h0
  have hi1 : (i : Int) < 64 := by omega
  have H2 := hid e2
  clear hk hd hT h0
  generalize 2 ^ k = p at *
  go_enter Tryd.func40, Tryd.ntmps40
  go_wp2_with fail
  go_ret
  exact ⟨rfl, rfl⟩
end Go.Proofs.YtnejacmmbfeneaaDoor

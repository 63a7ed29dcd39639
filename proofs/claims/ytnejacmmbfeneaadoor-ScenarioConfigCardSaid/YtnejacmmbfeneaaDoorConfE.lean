import Derived.Test.YtnejacmmbfeneaaDoorConfD
import Derived.Deep.RegionHeld3
namespace Go.Proofs.YtnejacmmbfeneaaDoor
open Go.RowKit Go.PlainAid

section
variable (w : World)

/-! ## validParameters -/
theorem par_row (c : CF) {k : Nat} {lo hi : Int} (h : parLH[k]? = some (lo, hi)) : ∃ x, (parsL c)[k]? = some (lo, hi, x) ∧ c.cells.toArray[k + 5]? = some (.int .i64 x) := by
  have hk : k < 10 := (List.getElem?_eq_some_iff.1 h).1
  obtain rfl | rfl | rfl | rfl | rfl | rfl | rfl | rfl | rfl | rfl : k = 0 ∨ k = 1 ∨ k = 2 ∨ k = 3 ∨ k = 4 ∨ k = 5 ∨ k = 6 ∨ k = 7 ∨ k = 8 ∨ k = 9 := by omega
  all_goals (cases Option.some.inj h; exact ⟨_, rfl, rfl⟩)
end
end Go.Proofs.YtnejacmmbfeneaaDoor

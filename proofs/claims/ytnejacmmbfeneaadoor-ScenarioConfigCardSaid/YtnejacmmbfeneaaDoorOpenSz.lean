import Derived.Test.YtnejacmmbfeneaaDoorGen2
import Derived.Test.YtnejacmmbfeneaaDoorOpen
import Derived.Test.YtnejacmmbfeneaaDoorOpen2
namespace Go.Proofs.YtnejacmmbfeneaaDoor
open Go.ChangeShapes Go.WideShapes Go.ChangeAt Go.RowKit Go.Deep

section
variable {H : Type} {enc : TypeId × Value → H} {w : World}
set_option maxRecDepth 100000 in
set_option maxHeartbeats 4000000 in
theorem open_sz {v : Value} {d : DataW H} {p : List MemPlace} {r : Reach} {b0 : Nat} (hv : Value.okWide Tryd.prog w r b0 24 v) (h : DataW.Trod enc Tryd.prog w 0 (fun _ => true) true 24 v d p) :
    ∃ s n : Int, v = .agg #[.int .u64 s, .int .i64 n] ∧ 0 ≤ s ∧ s ≤ 18446744073709551615 ∧ -9223372036854775808 ≤ n ∧ n ≤ 9223372036854775807 := by
  obtain ⟨cs, rfl, hsz⟩ := okWide_struct Tryd.underlying24 hv
  obtain ⟨fuel, hfu⟩ := h
  simp only [Value.cells] at hfu
  have hlen : cs.toList.length = 2 := by rw [Array.length_toList, hsz]; kernel_rfl
  obtain ⟨s, g0, w0⟩ := field_int Tryd.underlying24 hfu 0 rfl Tryd.underlying22 (by kernel_rfl)
  obtain ⟨n, g1, w1⟩ := field_int Tryd.underlying24 hfu 1 rfl Tryd.underlying3 (by kernel_rfl)
  refine ⟨s, n, congrArg Value.agg ?_, (bounds_u64 w0).1, (bounds_u64 w0).2, (bounds_i64 w1).1, (bounds_i64 w1).2⟩
  rw [← Array.toList_inj]
  refine List.ext_getElem? fun i => ?_
  by_cases hi : i < 2
  · obtain rfl | rfl : i = 0 ∨ i = 1 := by omega
    · exact g0
    · exact g1
  · rw [List.getElem?_eq_none (by omega), List.getElem?_eq_none (by simp; omega)]
end
end Go.Proofs.YtnejacmmbfeneaaDoor

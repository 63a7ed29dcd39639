import Derived.Test.YtnejacmmbfeneaaOpenCf
import Derived.Test.YtnejacmmbfeneaaGenA
namespace Go.Proofs.Ytnejacmmbfeneaa
open Go.ChangeShapes Go.WideShapes Go.ChangeAt Go.RowKit Go.Deep

/-! ## Rates and a size that came in -/
section
variable {H : Type} {enc : TypeId × Value → H} {w : World}
set_option maxRecDepth 100000 in
set_option maxHeartbeats 4000000 in
theorem open_rt {v : Value} {d : DataW H} {p : List MemPlace} {r : Reach} {b0 : Nat} (hv : Value.okWide Try.prog w r b0 49 v) (h : DataW.Trod enc Try.prog w 0 (fun _ => true) true 49 v d p) : ∃ m : RT, v = .agg m.cells.toArray := by
  obtain ⟨cs, rfl, hsz⟩ := okWide_struct Try.underlying49 hv
  obtain ⟨fuel, hfu⟩ := h
  simp only [Value.cells] at hfu
  have hlen : cs.toList.length = 7 := by rw [Array.length_toList, hsz]; kernel_rfl
  obtain ⟨a0, g0, _⟩ := field_int Try.underlying49 hfu 0 rfl Try.underlying3 (by kernel_rfl)
  obtain ⟨a1, g1, _⟩ := field_int Try.underlying49 hfu 1 rfl Try.underlying3 (by kernel_rfl)
  obtain ⟨a2, g2, _⟩ := field_int Try.underlying49 hfu 2 rfl Try.underlying3 (by kernel_rfl)
  obtain ⟨a3, g3, _⟩ := field_int Try.underlying49 hfu 3 rfl Try.underlying3 (by kernel_rfl)
  obtain ⟨a4, g4, _⟩ := field_int Try.underlying49 hfu 4 rfl Try.underlying3 (by kernel_rfl)
  obtain ⟨a5, g5, _⟩ := field_int Try.underlying49 hfu 5 rfl Try.underlying3 (by kernel_rfl)
  obtain ⟨a6, g6, _⟩ := field_int Try.underlying49 hfu 6 rfl Try.underlying3 (by kernel_rfl)
  refine ⟨⟨a0, a1, a2, a3, a4, a5, a6⟩, congrArg Value.agg ?_⟩
  rw [← Array.toList_inj]
  refine List.ext_getElem? fun i => ?_
  by_cases hi : i < 7
  · obtain rfl | rfl | rfl | rfl | rfl | rfl | rfl : i = 0 ∨ i = 1 ∨ i = 2 ∨ i = 3 ∨ i = 4 ∨ i = 5 ∨ i = 6 := by omega
    · exact g0
    · exact g1
    · exact g2
    · exact g3
    · exact g4
    · exact g5
    · exact g6
  · rw [List.getElem?_eq_none (by omega), List.getElem?_eq_none (by simp [RT.cells]; omega)]
set_option maxRecDepth 100000 in
set_option maxHeartbeats 4000000 in
theorem open_sz {v : Value} {d : DataW H} {p : List MemPlace} {r : Reach} {b0 : Nat} (hv : Value.okWide Try.prog w r b0 51 v) (h : DataW.Trod enc Try.prog w 0 (fun _ => true) true 51 v d p) :
    ∃ s n : Int, v = .agg #[.int .u64 s, .int .i64 n] ∧ 0 ≤ s ∧ s ≤ 18446744073709551615 ∧ -9223372036854775808 ≤ n ∧ n ≤ 9223372036854775807 := by
  obtain ⟨cs, rfl, hsz⟩ := okWide_struct Try.underlying51 hv
  obtain ⟨fuel, hfu⟩ := h
  simp only [Value.cells] at hfu
  have hlen : cs.toList.length = 2 := by rw [Array.length_toList, hsz]; kernel_rfl
  obtain ⟨s, g0, w0⟩ := field_int Try.underlying51 hfu 0 rfl Try.underlying22 (by kernel_rfl)
  obtain ⟨n, g1, w1⟩ := field_int Try.underlying51 hfu 1 rfl Try.underlying3 (by kernel_rfl)
  refine ⟨s, n, congrArg Value.agg ?_, (bounds_u64 w0).1, (bounds_u64 w0).2, (bounds_i64 w1).1, (bounds_i64 w1).2⟩
  rw [← Array.toList_inj]
  refine List.ext_getElem? fun i => ?_
  by_cases hi : i < 2
  · obtain rfl | rfl : i = 0 ∨ i = 1 := by omega
    · exact g0
    · exact g1
  · rw [List.getElem?_eq_none (by omega), List.getElem?_eq_none (by simp; omega)]
end
end Go.Proofs.Ytnejacmmbfeneaa

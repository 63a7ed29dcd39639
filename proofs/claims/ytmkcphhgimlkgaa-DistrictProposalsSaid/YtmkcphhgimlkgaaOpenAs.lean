import Derived.Test.YtmkcphhgimlkgaaOpenCd
import Derived.Test.YtmkcphhgimlkgaaDlS
namespace Go.Proofs.Ytmkcphhgimlkgaa
open Go.ChangeShapes Go.WideShapes Go.ChangeAt Go.RowKit Go.Deep

/-! ## What is asked of Proposals, as it came in -/
section
variable {H : Type} {enc : TypeId × Value → H} {w : World}
set_option maxRecDepth 100000 in
theorem open_ask {v : Value} {d : DataW H} {p : List MemPlace} {r : Reach} {b0 : Nat} (hfit : Fits Try.prog 32 d) (hv : Value.okWide Try.prog w r b0 32 v) (h : DataW.Trod enc Try.prog w 0 (fun _ => true) true 32 v d p) :
    ∃ (ce : Int) (Q : Option Addr) (cq : Nat) (S : List Int) (now again : Int), v = .agg (askV ce Q S.length cq now again).toArray ∧ Sl w (fun _ => False) 1 Q S.length (icellsC S) ∧ S.length ≤ maxLen ∧ again ≤ 9223372036854775807 := by
  obtain ⟨cs, rfl, hsz⟩ := okWide_struct Try.underlying32 hv
  obtain ⟨fuel, hfu⟩ := h
  simp only [Value.cells] at hfu
  have hlen : cs.toList.length = 4 := by rw [Array.length_toList, hsz]; kernel_rfl
  obtain ⟨ce, g0, _⟩ := field_int Try.underlying32 hfu 0 rfl Try.underlying3 (by kernel_rfl)
  obtain ⟨m1, y1, hy1, hf1⟩ := field_atR Try.underlying32 hfit hfu 1 rfl (by kernel_rfl)
  obtain ⟨Q, qn, cq, S, e1, rfl, hS, b1, b2, _⟩ := read_ints hf1 hy1
  obtain ⟨now, g2, _⟩ := field_int Try.underlying32 hfu 2 rfl Try.underlying2 (by kernel_rfl)
  obtain ⟨again, g3, w3⟩ := field_int Try.underlying32 hfu 3 rfl Try.underlying2 (by kernel_rfl)
  have k1 := at_of_take e1
  refine ⟨ce, Q, cq, S, now, again, congrArg Value.agg ?_, hS, by omega, (bounds_i64 w3).2⟩
  have : cs.toList = askV ce Q S.length cq now again := by
    match hcs : cs.toList, hlen with
    | [_, _, _, _], _ =>
      rw [hcs] at g0 k1 g2 g3
      simp at g0 k1 g2 g3
      simp [askV, g0, k1, g2, g3]
  rw [← this, Array.toArray_toList]
end
end Go.Proofs.Ytmkcphhgimlkgaa

import Derived.Test.YtbellndcgagclaaOpen2
import Derived.Test.YtbellndcgagclaaMem
import Derived.Lib.SmallJoins
namespace Go.Proofs.Ytbellndcgagclaa
open Go.ChangeShapes Go.WideShapes Go.ChangeAt Go.RowKit Go.Deep
section
variable {H : Type} {enc : TypeId × Value → H} {w : World}
theorem u8_bound {l : List Int} (h : ∀ b ∈ l, (Lit.int .u8 b).wf = true) : ∀ b ∈ l, 0 ≤ b ∧ b ≤ 255 := by
  intro b hb
  have := h b hb
  simp only [Lit.wf, Bool.and_eq_true, decide_eq_true_eq] at this
  have e1 : IntKind.u8.min = 0 := by rfl
  have e2 : IntKind.u8.max = 255 := by rfl
  omega
/-- one entry, by value -/
theorem open_en {v : Value} {d : DataW H} {p : List MemPlace} {r : Reach} {b0 : Nat} (hv : Value.okWide Try.prog w r b0 46 v) (h : DataW.Trod enc Try.prog w 0 (fun _ => true) true 46 v d p) :
    ∃ a : En, v = a.val ∧ EnOk w (fun _ => False) a := by
  obtain ⟨v0, v1, v2, y0, y1, y2, n, rfl, rfl, _, h0, h1, h2⟩ := Go.Joins.open_agg3 Try.underlying46 (by kernel_rfl) (by kernel_rfl) hv h
  obtain ⟨t, ht, _⟩ := DataW.trod_int Try.underlying2 h0
  obtain ⟨k, hk, _⟩ := DataW.trod_int Try.underlying3 h1
  obtain ⟨A, q, c, l, e1, e2, e3, e4, e5, e6⟩ := sl_trod_ints Try.underlying44 Try.underlying5 (by kernel_rfl) h2
  simp at ht hk e1
  subst ht hk e1
  exact ⟨⟨t, k, A, q, c, l⟩, rfl, ⟨e3, u8_bound e4, e5⟩⟩
end
end Go.Proofs.Ytbellndcgagclaa

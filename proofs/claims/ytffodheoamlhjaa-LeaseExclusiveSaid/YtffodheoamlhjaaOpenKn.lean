import Derived.Test.YtffodheoamlhjaaOpenA
import Derived.Lib.SmallJoins
namespace Go.Proofs.Ytffodheoamlhjaa
open Go.ChangeShapes Go.WideShapes Go.ChangeAt Go.RowKit Go.Deep
section
variable {H : Type} {enc : TypeId × Value → H} {w : World}
/-- what a participant knows, by value -/
theorem open_knows {v : Value} {d : DataW H} {p : List MemPlace} {r : Reach} {b0 : Nat} (hv : Value.okWide Try.prog w r b0 45 v) (h : DataW.Trod enc Try.prog w 0 (fun _ => true) true 45 v d p) :
    ∃ k t : Int, v = .agg #[.int .u8 k, .int .i64 t] ∧ 0 ≤ k ∧ k ≤ 255 := by
  obtain ⟨v0, v1, y0, y1, n, rfl, rfl, _, h0, h1⟩ := Go.Joins.open_agg2 Try.underlying45 (by kernel_rfl) (by kernel_rfl) hv h
  obtain ⟨k, hk, _, hw⟩ := DataW.trod_int Try.underlying5 h0
  obtain ⟨t, ht, _⟩ := DataW.trod_int Try.underlying2 h1
  simp at hk ht
  subst hk ht
  exact ⟨k, t, rfl, (bounds_u8 hw).1, (bounds_u8 hw).2⟩
theorem open_acts_cap {v : Value} {d : DataW H} {p : List MemPlace} {r : Reach} {b0 : Nat} (hv : Value.okWide Try.prog w r b0 25 v) (h : DataW.Trod enc Try.prog w 0 (fun _ => true) true 25 v d p) :
    ∃ (B : Option Addr) (m c : Nat) (l : List Ac), v = .slice B m c ∧ m ≤ c ∧ Sl w (fun _ => False) 6 B m (acFlat l) := by
  obtain ⟨B, m, c, l, h1, _, h3, _, h5, _⟩ := open_sl (f := Ac.cells) (k := 6) Try.underlying25 (by kernel_rfl) (by decide) (fun _ => rfl) (fun n cs x h => read_ac h) hv h
  exact ⟨B, m, c, l, h1, h5, h3⟩
end
end Go.Proofs.Ytffodheoamlhjaa

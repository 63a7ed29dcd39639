import Derived.Test.YtbellndcgagclaaOpenA
import Derived.Lib.SmallJoins
namespace Go.Proofs.Ytbellndcgagclaa
open Go.ChangeShapes Go.WideShapes Go.ChangeAt Go.RowKit Go.Deep
section
variable {H : Type} {enc : TypeId × Value → H} {w : World}
/-- one operation, by value -/
theorem open_act {v : Value} {d : DataW H} {p : List MemPlace} {r : Reach} {b0 : Nat} (hv : Value.okWide Try.prog w r b0 33 v) (h : DataW.Trod enc Try.prog w 0 (fun _ => true) true 33 v d p) :
    ∃ a : LAct, v = .agg #[.bool a.put, .int .i64 a.prev, .int .i64 a.term, .slice a.X a.n a.c] ∧ Ls w (fun _ => False) a.X a.n a.c a.es ∧ a.wt ≤ Rows.uptoBulk d := by
  obtain ⟨v0, v1, v2, v3, y0, y1, y2, y3, n, rfl, rfl, _, h0, h1, h2, h3⟩ := Go.Joins.open_agg4 Try.underlying33 (by kernel_rfl) (by kernel_rfl) hv h
  obtain ⟨b, hb, _⟩ := DataW.trod_bool Try.underlying4 h0
  obtain ⟨t, ht, _⟩ := DataW.trod_int Try.underlying2 h1
  obtain ⟨k, hk, _⟩ := DataW.trod_int Try.underlying2 h2
  obtain ⟨A, q, c, l, e1, e2, e3, e4, e5, e6, e7⟩ := sl_trodB (f := En.cells) (g := En.wt) (k := 3) Try.underlying26 (by kernel_rfl) (by decide) (fun _ => rfl) (fun n cs x h => read_en h) h3
  simp at hb ht hk e1
  subst hb ht hk e1
  exact ⟨⟨b, t, k, A, q, c, l⟩, rfl, ⟨e2, e3, e4, e5⟩, by simp only [LAct.wt, Rows.uptoBulk, Rows.uptoBulkAll]; omega⟩
end
end Go.Proofs.Ytbellndcgagclaa

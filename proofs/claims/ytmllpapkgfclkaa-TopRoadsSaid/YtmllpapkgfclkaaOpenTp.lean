import Derived.Test.YtmllpapkgfclkaaOpen2
import Derived.Test.YtmllpapkgfclkaaTpB
namespace Go.Proofs.Ytmllpapkgfclkaa
open Go.ChangeShapes Go.WideShapes Go.ChangeAt Go.RowKit Go.Deep

/-! ## Lists of edges, of changes, that came in -/
section
variable {H : Type} {enc : TypeId × Value → H} {w : World}
theorem three3 {cs : List Value} (h : cs.length = 3) {a b c : Value} (h0 : cs[0]? = some a) (h1 : cs[1]? = some b) (h2 : cs[2]? = some c) : cs = [a, b, c] := by
  match cs, h with
  | [_, _, _], _ => simp_all
theorem read_edge {n : Nat} {cs : List Value} {x : DataW H × List MemPlace} (h : DataW.trod enc Try.prog w 0 (fun _ => true) true n 49 cs = some x) : ∃ a : E3, cs = a.cells ∧ True := by
  obtain ⟨k, hk, _⟩ := field_int Try.underlying49 h 0 rfl Try.underlying3 (by kernel_rfl)
  obtain ⟨i, hi, _⟩ := field_int Try.underlying49 h 1 rfl Try.underlying3 (by kernel_rfl)
  obtain ⟨j, hj, _⟩ := field_int Try.underlying49 h 2 rfl Try.underlying2 (by kernel_rfl)
  obtain ⟨xs, m', _, _, hlen, _⟩ := DataW.trod_struct Try.underlying49 h
  have h3 : cs.length = 3 := by rw [hlen]; kernel_rfl
  exact ⟨⟨k, i, j⟩, three3 h3 hk hi hj, trivial⟩
theorem read_change {n : Nat} {cs : List Value} {x : DataW H × List MemPlace} (h : DataW.trod enc Try.prog w 0 (fun _ => true) true n 33 cs = some x) : ∃ a : E3, cs = a.cells ∧ True := by
  obtain ⟨k, hk, _⟩ := field_int Try.underlying33 h 0 rfl Try.underlying2 (by kernel_rfl)
  obtain ⟨i, hi, _⟩ := field_int Try.underlying33 h 1 rfl Try.underlying3 (by kernel_rfl)
  obtain ⟨j, hj, _⟩ := field_int Try.underlying33 h 2 rfl Try.underlying2 (by kernel_rfl)
  obtain ⟨xs, m', _, _, hlen, _⟩ := DataW.trod_struct Try.underlying33 h
  have h3 : cs.length = 3 := by rw [hlen]; kernel_rfl
  exact ⟨⟨k, i, j⟩, three3 h3 hk hi hj, trivial⟩
theorem open_edges {v : Value} {d : DataW H} {p : List MemPlace} {r : Reach} {b0 : Nat} (hv : Value.okWide Try.prog w r b0 22 v) (h : DataW.Trod enc Try.prog w 0 (fun _ => true) true 22 v d p) :
    ∃ (A : Option Addr) (c : Nat) (l : List E3), v = .slice A l.length c ∧ Sl w (fun _ => False) 3 A l.length (e3cells l) := by
  obtain ⟨A, n, c, l, h1, h2, h3, _⟩ := open_sl (k := 3) (f := E3.cells) (G := fun _ => True) Try.underlying22 (by kernel_rfl) (by decide) (fun _ => rfl) (fun _ _ _ h => read_edge h) hv h
  subst h2
  exact ⟨A, c, l, h1, h3⟩
theorem open_changes {v : Value} {d : DataW H} {p : List MemPlace} {r : Reach} {b0 : Nat} (hv : Value.okWide Try.prog w r b0 23 v) (h : DataW.Trod enc Try.prog w 0 (fun _ => true) true 23 v d p) :
    ∃ (A : Option Addr) (c : Nat) (l : List E3), v = .slice A l.length c ∧ Sl w (fun _ => False) 3 A l.length (e3cells l) := by
  obtain ⟨A, n, c, l, h1, h2, h3, _⟩ := open_sl (k := 3) (f := E3.cells) (G := fun _ => True) Try.underlying23 (by kernel_rfl) (by decide) (fun _ => rfl) (fun _ _ _ h => read_change h) hv h
  subst h2
  exact ⟨A, c, l, h1, h3⟩
end
end Go.Proofs.Ytmllpapkgfclkaa

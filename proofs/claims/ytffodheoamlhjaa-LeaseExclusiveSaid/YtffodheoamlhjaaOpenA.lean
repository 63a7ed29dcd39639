import Derived.Test.YtffodheoamlhjaaOpen
import Derived.Test.YtffodheoamlhjaaPlayed
namespace Go.Proofs.Ytffodheoamlhjaa
open Go.ChangeShapes Go.WideShapes Go.ChangeAt Go.RowKit Go.Deep

section
variable {H : Type} {enc : TypeId × Value → H} {w : World}
theorem six {cs : List Value} (h : cs.length = 6) {a b c d e f : Value} (h0 : cs[0]? = some a) (h1 : cs[1]? = some b) (h2 : cs[2]? = some c) (h3 : cs[3]? = some d) (h4 : cs[4]? = some e) (h5 : cs[5]? = some f) : cs = [a, b, c, d, e, f] := by
  match cs, h with
  | [_, _, _, _, _, _], _ => simp_all
theorem read_ac {n : Nat} {cs : List Value} {x : DataW H × List MemPlace} (h : DataW.trod enc Try.prog w 0 (fun _ => true) true n 47 cs = some x) : ∃ a : Ac, cs = a.cells ∧ (Lit.int .i64 a.n).wf = true := by
  obtain ⟨k, hk, _⟩ := field_int Try.underlying47 h 0 rfl Try.underlying3 (by kernel_rfl)
  obtain ⟨t, ht, _⟩ := field_int Try.underlying47 h 1 rfl Try.underlying3 (by kernel_rfl)
  obtain ⟨ww, hw, _⟩ := field_int Try.underlying47 h 2 rfl Try.underlying3 (by kernel_rfl)
  obtain ⟨e, he, _⟩ := field_int Try.underlying47 h 3 rfl Try.underlying2 (by kernel_rfl)
  obtain ⟨nn, hn, hnw⟩ := field_int Try.underlying47 h 4 rfl Try.underlying2 (by kernel_rfl)
  obtain ⟨l, hl, _⟩ := field_int Try.underlying47 h 5 rfl Try.underlying2 (by kernel_rfl)
  obtain ⟨xs, m, _, _, hlen, _⟩ := DataW.trod_struct Try.underlying47 h
  have h6 : cs.length = 6 := by rw [hlen]; kernel_rfl
  exact ⟨⟨k, t, ww, e, nn, l⟩, six h6 hk ht hw he hn hl, hnw⟩
theorem open_acts {v : Value} {d : DataW H} {p : List MemPlace} {r : Reach} {b0 : Nat} (hv : Value.okWide Try.prog w r b0 25 v) (h : DataW.Trod enc Try.prog w 0 (fun _ => true) true 25 v d p) :
    ∃ (B : Option Addr) (m c : Nat) (l : List Ac), v = .slice B m c ∧ l.length = m ∧ Sl w (fun _ => False) 6 B m (acFlat l) ∧ ∀ a ∈ l, (Lit.int .i64 a.n).wf = true := by
  obtain ⟨B, m, c, l, h1, h2, h3, h4, _⟩ := open_sl (f := Ac.cells) (k := 6) Try.underlying25 (by kernel_rfl) (by decide) (fun _ => rfl) (fun n cs x h => read_ac h) hv h
  exact ⟨B, m, c, l, h1, h2, h3, h4⟩
end
end Go.Proofs.Ytffodheoamlhjaa

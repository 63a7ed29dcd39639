import Derived.Test.YtnejacmmbfeneaaOpen2
import Derived.Test.YtnejacmmbfeneaaRandW
namespace Go.Proofs.Ytnejacmmbfeneaa
open Go.ChangeShapes Go.WideShapes Go.ChangeAt Go.RowKit Go.Deep

section
variable {H : Type} {enc : TypeId × Value → H} {w : World}
theorem four {cs : List Value} (h : cs.length = 4) {a b c d : Value} (h0 : cs[0]? = some a) (h1 : cs[1]? = some b) (h2 : cs[2]? = some c) (h3 : cs[3]? = some d) : cs = [a, b, c, d] := by
  match cs, h with
  | [_, _, _, _], _ => simp_all
theorem read_dr {n : Nat} {cs : List Value} {x : DataW H × List MemPlace} (h : DataW.trod enc Try.prog w 0 (fun _ => true) true n 35 cs = some x) : ∃ a : Dr, cs = a.cells ∧ DrOk w a := by
  obtain ⟨k, hk, _⟩ := field_int Try.underlying35 h 0 rfl Try.underlying3 (by kernel_rfl)
  obtain ⟨K, hK, _⟩ := field_int Try.underlying35 h 1 rfl Try.underlying3 (by kernel_rfl)
  obtain ⟨nn, hn, hnw⟩ := field_int Try.underlying35 h 2 rfl Try.underlying3 (by kernel_rfl)
  obtain ⟨m, y, hy⟩ := field_at Try.underlying35 h 3 rfl (by kernel_rfl)
  obtain ⟨A, am, ac, ws, hcs, hl, hS, _⟩ := sl_trod_ints Try.underlying23 Try.underlying3 (by kernel_rfl) hy
  obtain ⟨xs, _, _, _, hlen, _⟩ := DataW.trod_struct Try.underlying35 h
  have h4 : cs.length = 4 := by rw [hlen]; kernel_rfl
  exact ⟨⟨k, K, nn, A, am, ac, ws⟩, four h4 hk hK hn (at_of_take hcs), (bounds_i64 hnw).2, hS⟩
set_option maxRecDepth 100000 in
theorem open_draws {v : Value} {d : DataW H} {p : List MemPlace} {r : Reach} {b0 : Nat} (hv : Value.okWide Try.prog w r b0 30 v) (h : DataW.Trod enc Try.prog w 0 (fun _ => true) true 30 v d p) :
    ∃ (B : Option Addr) (m c : Nat) (l : List Dr), v = .slice B m c ∧ l.length = m ∧ Sl w (fun _ => False) 4 B m (drFlat l) ∧ ∀ a ∈ l, DrOk w a := by
  obtain ⟨B, m, c, l, h1, h2, h3, h4, _⟩ := open_sl (f := Dr.cells) (G := fun a => DrOk w a) (k := 4) Try.underlying30 (by kernel_rfl) (by decide) (fun _ => rfl) (fun n cs x h => by obtain ⟨a, h1, h2⟩ := read_dr h; exact ⟨a, h1, h2⟩) hv h
  exact ⟨B, m, c, l, h1, h2, h3, h4⟩
end
end Go.Proofs.Ytnejacmmbfeneaa

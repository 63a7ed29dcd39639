import Derived.Test.YtkkenfgpmoediaaOpen
import Derived.Test.YtkkenfgpmoediaaOpen2
import Derived.Test.YtkkenfgpmoediaaCallI
namespace Go.Proofs.Ytkkenfgpmoediaa
open Go.ChangeShapes Go.WideShapes Go.ChangeAt Go.RowKit Go.Deep
section
variable {H : Type} {enc : TypeId × Value → H} {w : World}
theorem six {cs : List Value} (h : cs.length = 6) {a b c d e f : Value} (h0 : cs[0]? = some a) (h1 : cs[1]? = some b) (h2 : cs[2]? = some c) (h3 : cs[3]? = some d) (h4 : cs[4]? = some e) (h5 : cs[5]? = some f) : cs = [a, b, c, d, e, f] := by
  match cs, h with
  | [_, _, _, _, _, _], _ => simp_all
/-- one operation -/
theorem read_la {n : Nat} {cs : List Value} {x : DataW H × List MemPlace} (h : DataW.trod enc Try.prog w 0 (fun _ => true) true n 35 cs = some x) : ∃ a : LA, cs = a.cells ∧ True := by
  obtain ⟨k, h0, _⟩ := field_int Try.underlying35 h 0 rfl Try.underlying3 (by kernel_rfl)
  obtain ⟨c, h1, _⟩ := field_int Try.underlying35 h 1 rfl Try.underlying3 (by kernel_rfl)
  obtain ⟨m, h2, _⟩ := field_int Try.underlying35 h 2 rfl Try.underlying3 (by kernel_rfl)
  obtain ⟨e, h3, _⟩ := field_int Try.underlying35 h 3 rfl Try.underlying2 (by kernel_rfl)
  obtain ⟨t, h4, _⟩ := field_int Try.underlying35 h 4 rfl Try.underlying2 (by kernel_rfl)
  obtain ⟨m1, y1, hy1⟩ := field_at Try.underlying35 h 5 rfl (by kernel_rfl)
  obtain ⟨s, hs, _⟩ := DataW.trod_string u_str hy1
  obtain ⟨xs, m', _, _, hlen, _⟩ := DataW.trod_struct Try.underlying35 h
  have h6 : cs.length = 6 := by rw [hlen]; kernel_rfl
  exact ⟨⟨k, c, m, e, t, s⟩, six h6 h0 h1 h2 h3 h4 (at_of_take hs), trivial⟩
theorem open_acts {v : Value} {d : DataW H} {p : List MemPlace} {r : Reach} {b0 : Nat} (hv : Value.okWide Try.prog w r b0 22 v) (h : DataW.Trod enc Try.prog w 0 (fun _ => true) true 22 v d p) :
    ∃ (B : Option Addr) (m c : Nat) (l : List LA), v = .slice B m c ∧ Sl w (fun _ => False) 6 B m (actCells l) ∧ m ≤ maxLen := by
  obtain ⟨B, m, c, l, h1, h2, h3, h4, h5, h6⟩ := open_sl (f := LA.cells) (k := 6) Try.underlying22 (by kernel_rfl) (by decide) (fun _ => rfl) (fun n cs x h => read_la h) hv h
  exact ⟨B, m, c, l, h1, h3, Nat.le_trans h5 h6⟩
end
end Go.Proofs.Ytkkenfgpmoediaa

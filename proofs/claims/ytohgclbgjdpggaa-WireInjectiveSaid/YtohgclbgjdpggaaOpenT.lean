import Derived.Test.YtohgclbgjdpggaaOpenR
import Derived.Test.YtohgclbgjdpggaaWireO
namespace Go.Proofs.Ytohgclbgjdpggaa
open Go.ChangeShapes Go.WideShapes Go.ChangeAt Go.RowKit Go.Deep

section
variable {H : Type} {enc : TypeId × Value → H} {w : World}
theorem five {cs : List Value} (h : cs.length = 5) {a b c d e : Value} (h0 : cs[0]? = some a) (h1 : cs[1]? = some b) (h2 : cs[2]? = some c) (h3 : cs[3]? = some d) (h4 : cs[4]? = some e) : cs = [a, b, c, d, e] := by
  match cs, h with
  | [_, _, _, _, _], _ => simp_all
theorem i64_wf {n : Int} (h : (Lit.int .i64 n).wf = true) : i64ok n := by
  simp only [Lit.wf, Bool.and_eq_true, decide_eq_true_eq] at h
  have e1 : IntKind.i64.min = -9223372036854775808 := by rfl
  have e2 : IntKind.i64.max = 9223372036854775807 := by rfl
  unfold i64ok; omega
theorem reach_lt : reachBytes ≤ 281474976710656 := by decide
/-- one value -/
theorem read_thing {n : Nat} {cs : List Value} {x : DataW H × List MemPlace} (h : DataW.trod enc Try.prog w 0 (fun _ => true) true n 33 cs = some x) (hfit : Fits Try.prog 33 x.1) :
    ∃ a : Tm, cs = a.cells ∧ (TmOk w (fun _ => False) a ∧ a.s.size ≤ 281474976710656 ∧ a.m ≤ 281474976710656 ∧ i64ok a.n ∧ ∀ e ∈ a.l, i64ok e) := by
  obtain ⟨k, hk, _⟩ := field_int Try.underlying33 h 0 rfl Try.underlying3 (by kernel_rfl)
  obtain ⟨i, hi, hiw⟩ := field_int Try.underlying33 h 1 rfl Try.underlying2 (by kernel_rfl)
  obtain ⟨m0, y0, hy0, _⟩ := field_atR Try.underlying33 hfit h 2 rfl (by kernel_rfl)
  obtain ⟨b, hb, _⟩ := DataW.trod_bool Try.underlying4 hy0
  obtain ⟨m1, y1, hy1, hf1⟩ := field_atR Try.underlying33 hfit h 3 rfl (by kernel_rfl)
  obtain ⟨s, hs, hsx, _⟩ := DataW.trod_string u_str hy1
  obtain ⟨m2, y2, hy2, hf2⟩ := field_atR Try.underlying33 hfit h 4 rfl (by kernel_rfl)
  obtain ⟨A, q, c, l, h1, h2, h3, h4, _, _, h7⟩ := sl_trodR (f := fun a => [Value.int .i64 a]) (G := fun a => (Lit.int .i64 a).wf = true) Try.underlying31 (by kernel_rfl) (by decide) (fun _ => rfl) hf2 (fun n cs x h _ => by
    obtain ⟨a, ha, _, hw⟩ := DataW.trod_int Try.underlying3 h
    exact ⟨a, ha, hw⟩) hy2
  obtain ⟨xs, m', _, _, hlen, _⟩ := DataW.trod_struct Try.underlying33 h
  have h5' : cs.length = 5 := by rw [hlen]; kernel_rfl
  rw [ints_flat] at h3
  have hss : s.size ≤ reachBytes := by
    rw [hsx] at hf1
    have := hf1.string
    have e : s.data.toList.length = s.size := Array.length_toList
    omega
  have hr := reach_lt
  have hb8 : Try.prog.bytesOf 3 = 8 := by kernel_rfl
  rw [hb8] at h7
  exact ⟨⟨k, i, b, s, A, q, c, l⟩, five h5' hk hi (at_of_take hb) (at_of_take hs) (at_of_take h1), ⟨h3⟩, by simp only; omega, by simp only; omega, i64_wf hiw, fun e he => i64_wf (h4 e he)⟩
/-- a slice of values -/
theorem open_things {v : Value} {d : DataW H} {p : List MemPlace} {r : Reach} {b0 : Nat} (hfit : Fits Try.prog 38 d) (hv : Value.okWide Try.prog w r b0 38 v) (h : DataW.Trod enc Try.prog w 0 (fun _ => true) true 38 v d p) :
    ∃ (B : Option Addr) (m c : Nat) (l : List Tm), v = .slice B m c ∧ Tr w (fun _ => False) B m l ∧ m ≤ 281474976710656 := by
  obtain ⟨B, m, c, l, h1, h2, h3, h4, _, _, h7⟩ := open_slR (f := Tm.cells) (k := 5) Try.underlying38 (by kernel_rfl) (by decide) (fun _ => rfl) hfit (fun n cs x h hf => read_thing h hf) hv h
  have hr := reach_lt
  have hb : Try.prog.bytesOf 33 = 64 := by kernel_rfl
  rw [hb] at h7
  exact ⟨B, m, c, l, h1, ⟨h3, fun x hx => (h4 x hx).1, fun x hx => (h4 x hx).2⟩, by omega⟩
end
end Go.Proofs.Ytohgclbgjdpggaa

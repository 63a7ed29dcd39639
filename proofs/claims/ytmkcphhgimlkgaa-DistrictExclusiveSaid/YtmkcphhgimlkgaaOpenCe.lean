import Derived.Test.YtmkcphhgimlkgaaOpenCd
namespace Go.Proofs.Ytmkcphhgimlkgaa
open Go.ChangeShapes Go.WideShapes Go.ChangeAt Go.RowKit Go.Deep

section
variable {H : Type} {enc : TypeId × Value → H} {w : World}
set_option maxRecDepth 100000 in
theorem open_case2 {v : Value} {d : DataW H} {p : List MemPlace} {r : Reach} {b0 : Nat} (hfit : Fits Try.prog 30 d) (hv : Value.okWide Try.prog w r b0 30 v) (h : DataW.Trod enc Try.prog w 0 (fun _ => true) true 30 v d p) :
    ∃ (c : CF) (Z : Option Addr) (cz : Nat) (acts : List AK), v = .agg (map16 c Z acts.length cz).toArray ∧ CM w c ∧ Few c ∧ Sl w (fun _ => False) 5 Z acts.length (akcells acts) ∧ acts.length ≤ cz ∧ cz ≤ maxLen ∧ acts.length ≤ 140737488355328 := by
  obtain ⟨cs, rfl, hsz⟩ := okWide_struct Try.underlying30 hv
  obtain ⟨fuel, hfu⟩ := h
  simp only [Value.cells] at hfu
  have hlen : cs.toList.length = 16 := by rw [Array.length_toList, hsz]; kernel_rfl
  obtain ⟨m0, y0, hy0, hf0⟩ := field_bigR Try.underlying30 hfit hfu 0 rfl
  change DataW.trod enc Try.prog w 0 (fun _ => true) true m0 27 ((cs.toList.drop 0).take (Try.prog.cellsOf 27)) = some y0 at hy0
  rw [show Try.prog.cellsOf 27 = 15 from by kernel_rfl] at hy0
  obtain ⟨c, hc, hm, hf⟩ := read_cf hy0 hf0
  obtain ⟨m1, y1, hy1, hf1⟩ := field_atR Try.underlying30 hfit hfu 1 rfl (by kernel_rfl)
  obtain ⟨Z, zn, cz, acts, e1, rfl, hZ, _, b1, b2, b3⟩ := sl_trodR (f := AK.cells) (k := 5) Try.underlying28 (by kernel_rfl) (by decide) (fun _ => rfl) hf1 (fun n cs x h _ => read_act h) hy1
  refine ⟨c, Z, cz, acts, ?_, hm, hf, hZ, b1, b2, ?_⟩
  rotate_left 1
  · have hr := reach_lt
    have hb : Try.prog.bytesOf 60 = 40 := by kernel_rfl
    rw [hb] at b3
    omega
  have hcs : cs.toList = map16 c Z acts.length cz := by
    have h1 : cs.toList.take 15 = c.cells := hc
    have h2 : cs.toList.drop 15 = [.slice Z acts.length cz] := by
      have h3 : (cs.toList.drop 15).take 1 = [.slice Z acts.length cz] := e1
      rwa [List.take_of_length_le (by rw [List.length_drop, hlen]; decide)] at h3
    rw [← List.take_append_drop 15 cs.toList, h1, h2]
    rfl
  exact congrArg Value.agg (by rw [← hcs, Array.toArray_toList])
theorem okWide_arr {P : Program} {r : Reach} {b0 n : Nat} {t e : TypeId} {v : Value} (ht : P.underlying t = some (.array n e)) (h : Value.okWide P w r b0 t v) : ∃ cs, v = .agg cs ∧ cs.size = P.cellsOf t := by
  simp only [Value.okWide, ht] at h
  obtain ⟨cs, h1, h2, _⟩ := h
  exact ⟨cs, h1, h2⟩
set_option maxRecDepth 100000 in
theorem open_arr {v : Value} {d : DataW H} {p : List MemPlace} {r : Reach} {b0 : Nat} (hv : Value.okWide Try.prog w r b0 58 v) (h : DataW.Trod enc Try.prog w 0 (fun _ => true) true 58 v d p) :
    ∃ x0 x1 : Int, v = .agg #[.int .u8 x0, .int .u8 x1] ∧ 0 ≤ x0 ∧ x0 ≤ 255 ∧ 0 ≤ x1 ∧ x1 ≤ 255 := by
  obtain ⟨cs, rfl, hsz⟩ := okWide_arr Try.underlying58 hv
  obtain ⟨fuel, hfu⟩ := h
  simp only [Value.cells] at hfu
  obtain ⟨xs, m, _, _, hlen, hx2, hi⟩ := DataW.trod_array Try.underlying58 hfu
  rw [show Try.prog.cellsOf 58 = 2 from by kernel_rfl] at hlen
  rw [show Try.prog.cellsOf 5 = 1 from by kernel_rfl] at hi
  obtain ⟨y0, h0⟩ := get_some (l := xs) (k := 0) (by omega)
  obtain ⟨y1, h1⟩ := get_some (l := xs) (k := 1) (by omega)
  have g0 := hi 0 (by omega)
  have g1 := hi 1 (by omega)
  rw [h0] at g0
  rw [h1] at g1
  obtain ⟨x0, e0, _, w0⟩ := DataW.trod_int Try.underlying5 g0
  obtain ⟨x1, e1, _, w1⟩ := DataW.trod_int Try.underlying5 g1
  have b0 := bounds_u8 w0
  have b1 := bounds_u8 w1
  refine ⟨x0, x1, congrArg Value.agg ?_, b0.1, b0.2, b1.1, b1.2⟩
  have : cs.toList = [.int .u8 x0, .int .u8 x1] := by
    match hcs : cs.toList, hlen with
    | [_, _], _ =>
      rw [hcs] at e0 e1
      simp at e0 e1
      simp [e0, e1]
  rw [← Array.toArray_toList (xs := cs), this]
end
end Go.Proofs.Ytmkcphhgimlkgaa

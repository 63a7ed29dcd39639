import Derived.Test.YtmkcphhgimlkgaaOpenR
import Derived.Test.YtmkcphhgimlkgaaGreatD
import Derived.Test.YtmkcphhgimlkgaaDiJ
namespace Go.Proofs.Ytmkcphhgimlkgaa
open Go.ChangeShapes Go.WideShapes Go.ChangeAt Go.RowKit Go.Deep

/-! ## A configuration that came in -/
section
variable {H : Type} {enc : TypeId × Value → H} {w : World}
theorem three3 {cs : List Value} (h : cs.length = 3) {a b c : Value} (h0 : cs[0]? = some a) (h1 : cs[1]? = some b) (h2 : cs[2]? = some c) : cs = [a, b, c] := by
  match cs, h with
  | [_, _, _], _ => simp_all
theorem reach_lt : reachBytes ≤ 140737488355328 := by decide
theorem read_ints {n : Nat} {cs : List Value} {x : DataW H × List MemPlace} (hfit : Fits Try.prog 22 x.1) (h : DataW.trod enc Try.prog w 0 (fun _ => true) true n 22 cs = some x) :
    ∃ (A : Option Addr) (n c : Nat) (l : List Int), cs = [.slice A n c] ∧ l.length = n ∧ Sl w (fun _ => False) 1 A n (icellsC l) ∧ n ≤ c ∧ c ≤ maxLen ∧ n ≤ 140737488355328 := by
  obtain ⟨A, q, c, l, h1, h2, h3, _, h5, h6, h7⟩ := sl_trodR (f := fun a => [Value.int .i64 a]) (G := fun a => (Lit.int .i64 a).wf = true) Try.underlying22 (by kernel_rfl) (by decide) (fun _ => rfl) hfit (fun n cs x h _ => by
    obtain ⟨a, ha, _, hw⟩ := DataW.trod_int Try.underlying3 h
    exact ⟨a, ha, hw⟩) h
  rw [ints_flat] at h3
  have hr := reach_lt
  have hb8 : Try.prog.bytesOf 3 = 8 := by kernel_rfl
  rw [hb8] at h7
  exact ⟨A, q, c, l, h1, h2, h3, h5, h6, by omega⟩
theorem read_edge {n : Nat} {cs : List Value} {x : DataW H × List MemPlace} (h : DataW.trod enc Try.prog w 0 (fun _ => true) true n 133 cs = some x) : ∃ a : E3, cs = a.cells ∧ True := by
  obtain ⟨k, hk, _⟩ := field_int Try.underlying133 h 0 rfl Try.underlying3 (by kernel_rfl)
  obtain ⟨i, hi, _⟩ := field_int Try.underlying133 h 1 rfl Try.underlying3 (by kernel_rfl)
  obtain ⟨j, hj, _⟩ := field_int Try.underlying133 h 2 rfl Try.underlying2 (by kernel_rfl)
  obtain ⟨xs, m', _, _, hlen, _⟩ := DataW.trod_struct Try.underlying133 h
  have h3 : cs.length = 3 := by rw [hlen]; kernel_rfl
  exact ⟨⟨k, i, j⟩, three3 h3 hk hi hj, trivial⟩
theorem read_unit {n : Nat} {cs : List Value} {x : DataW H × List MemPlace} (h : DataW.trod enc Try.prog w 0 (fun _ => true) true n 136 cs = some x) : ∃ a : E3, cs = a.cells ∧ True := by
  obtain ⟨k, hk, _⟩ := field_int Try.underlying136 h 0 rfl Try.underlying3 (by kernel_rfl)
  obtain ⟨i, hi, _⟩ := field_int Try.underlying136 h 1 rfl Try.underlying3 (by kernel_rfl)
  obtain ⟨j, hj, _⟩ := field_int Try.underlying136 h 2 rfl Try.underlying3 (by kernel_rfl)
  obtain ⟨xs, m', _, _, hlen, _⟩ := DataW.trod_struct Try.underlying136 h
  have h3 : cs.length = 3 := by rw [hlen]; kernel_rfl
  exact ⟨⟨k, i, j⟩, three3 h3 hk hi hj, trivial⟩
theorem read_plan {n : Nat} {cs : List Value} {x : DataW H × List MemPlace} (h : DataW.trod enc Try.prog w 0 (fun _ => true) true n 108 cs = some x) (hfit : Fits Try.prog 108 x.1) :
    ∃ p : PL, cs = p.cells ∧ (Sl w (fun _ => False) 1 p.K p.kinds.length (icellsC p.kinds) ∧ p.code.size ≤ 140737488355328 ∧ p.kinds.length ≤ 140737488355328) := by
  obtain ⟨m1, y1, hy1, hf1⟩ := field_atR Try.underlying108 hfit h 0 rfl (by kernel_rfl)
  obtain ⟨s, hs, hsx, _⟩ := DataW.trod_string Try.underlying9 hy1
  obtain ⟨k, hk, _⟩ := field_int Try.underlying108 h 1 rfl Try.underlying3 (by kernel_rfl)
  obtain ⟨m2, y2, hy2, hf2⟩ := field_atR Try.underlying108 hfit h 2 rfl (by kernel_rfl)
  obtain ⟨A, q, c, l, h1, h2, h3, h5, h6, h7⟩ := read_ints hf2 hy2
  obtain ⟨xs, m', _, _, hlen, _⟩ := DataW.trod_struct Try.underlying108 h
  have h3' : cs.length = 3 := by rw [hlen]; kernel_rfl
  have hss : s.size ≤ reachBytes := by
    rw [hsx] at hf1
    have := hf1.string
    have e : s.data.toList.length = s.size := Array.length_toList
    omega
  have hr := reach_lt
  subst h2
  exact ⟨⟨s, k, A, c, l⟩, three3 h3' (at_of_take hs) hk (at_of_take h1), h3, by simp only; omega, by simp only; omega⟩
set_option maxRecDepth 100000 in
set_option maxHeartbeats 4000000 in
theorem read_cf {fuel : Nat} {cs : List Value} {x : DataW H × List MemPlace} (hfu : DataW.trod enc Try.prog w 0 (fun _ => true) true fuel 27 cs = some x) (hfit : Fits Try.prog 27 x.1) : ∃ c : CF, cs = c.cells ∧ CM w c ∧ Few c := by
  obtain ⟨xs, m', _, _, hlen', _⟩ := DataW.trod_struct Try.underlying27 hfu
  have hlen : cs.length = 15 := by rw [hlen']; kernel_rfl
  obtain ⟨cen, g0, _⟩ := field_int Try.underlying27 hfu 0 rfl Try.underlying3 (by kernel_rfl)
  obtain ⟨m1, y1, hy1, hf1⟩ := field_atR Try.underlying27 hfit hfu 1 rfl (by kernel_rfl)
  obtain ⟨D, dn, cD, dis, e1, rfl, hD, bD1, bD2, _⟩ := read_ints hf1 hy1
  obtain ⟨m2, y2, hy2, hf2⟩ := field_atR Try.underlying27 hfit hfu 2 rfl (by kernel_rfl)
  obtain ⟨E, en, cE, edg, e2, rfl, hE, _, bE1, bE2, _⟩ := sl_trodR (f := E3.cells) (k := 3) Try.underlying23 (by kernel_rfl) (by decide) (fun _ => rfl) hf2 (fun n cs x h _ => read_edge h) hy2
  obtain ⟨m3, y3, hy3, hf3⟩ := field_atR Try.underlying27 hfit hfu 3 rfl (by kernel_rfl)
  obtain ⟨U, un, cU, uni, e3, rfl, hU, _, bU1, bU2, _⟩ := sl_trodR (f := E3.cells) (k := 3) Try.underlying24 (by kernel_rfl) (by decide) (fun _ => rfl) hf3 (fun n cs x h _ => read_unit h) hy3
  obtain ⟨m4, y4, hy4, hf4⟩ := field_atR Try.underlying27 hfit hfu 4 rfl (by kernel_rfl)
  obtain ⟨P, pn, cP, pla, e4, rfl, hP, hPl, bP1, bP2, _⟩ := sl_trodR (f := PL.cells) (k := 3) Try.underlying25 (by kernel_rfl) (by decide) (fun _ => rfl) hf4 (fun n cs x h hf => read_plan h hf) hy4
  obtain ⟨h0, g5, _⟩ := field_int Try.underlying27 hfu 5 rfl Try.underlying2 (by kernel_rfl)
  obtain ⟨h1, g6, _⟩ := field_int Try.underlying27 hfu 6 rfl Try.underlying2 (by kernel_rfl)
  obtain ⟨h2, g7, _⟩ := field_int Try.underlying27 hfu 7 rfl Try.underlying2 (by kernel_rfl)
  obtain ⟨h3, g8, _⟩ := field_int Try.underlying27 hfu 8 rfl Try.underlying2 (by kernel_rfl)
  obtain ⟨h4, g9, _⟩ := field_int Try.underlying27 hfu 9 rfl Try.underlying2 (by kernel_rfl)
  obtain ⟨h5, g10, _⟩ := field_int Try.underlying27 hfu 10 rfl Try.underlying2 (by kernel_rfl)
  obtain ⟨h6, g11, _⟩ := field_int Try.underlying27 hfu 11 rfl Try.underlying2 (by kernel_rfl)
  obtain ⟨h7, g12, _⟩ := field_int Try.underlying27 hfu 12 rfl Try.underlying2 (by kernel_rfl)
  obtain ⟨h8, g13, _⟩ := field_int Try.underlying27 hfu 13 rfl Try.underlying3 (by kernel_rfl)
  obtain ⟨h9, g14, _⟩ := field_int Try.underlying27 hfu 14 rfl Try.underlying3 (by kernel_rfl)
  have k1 := at_of_take e1
  have k2 := at_of_take e2
  have k3 := at_of_take e3
  have k4 := at_of_take e4
  refine ⟨⟨cen, D, cD, dis, E, cE, edg, U, cU, uni, P, cP, pla, h0, h1, h2, h3, h4, h5, h6, h7, h8, h9⟩, ?_, ⟨hD, hE, hU, hP, fun p hp => ?_, by simp only; omega, by simp only; omega, by simp only; omega, by simp only; omega, bP1⟩, fun p hp => (hPl p hp).2⟩
  · refine List.ext_getElem? fun i => ?_
    by_cases hi : i < 15
    · obtain rfl | rfl | rfl | rfl | rfl | rfl | rfl | rfl | rfl | rfl | rfl | rfl | rfl | rfl | rfl : i = 0 ∨ i = 1 ∨ i = 2 ∨ i = 3 ∨ i = 4 ∨ i = 5 ∨ i = 6 ∨ i = 7 ∨ i = 8 ∨ i = 9 ∨ i = 10 ∨ i = 11 ∨ i = 12 ∨ i = 13 ∨ i = 14 := by omega
      · exact g0
      · exact k1
      · exact k2
      · exact k3
      · exact k4
      · exact g5
      · exact g6
      · exact g7
      · exact g8
      · exact g9
      · exact g10
      · exact g11
      · exact g12
      · exact g13
      · exact g14
    · rw [List.getElem?_eq_none (by omega), List.getElem?_eq_none (by simp [CF.cells]; omega)]
  · obtain ⟨q1, q2, q3⟩ := hPl p hp
    exact ⟨q1, by unfold maxLen; omega, by unfold maxLen; omega⟩
set_option maxRecDepth 100000 in
theorem open_cf {v : Value} {d : DataW H} {p : List MemPlace} {r : Reach} {b0 : Nat} (hfit : Fits Try.prog 27 d) (hv : Value.okWide Try.prog w r b0 27 v) (h : DataW.Trod enc Try.prog w 0 (fun _ => true) true 27 v d p) :
    ∃ c : CF, v = .agg c.cells.toArray ∧ CM w c ∧ Few c := by
  obtain ⟨cs, rfl, hsz⟩ := okWide_struct Try.underlying27 hv
  obtain ⟨fuel, hfu⟩ := h
  simp only [Value.cells] at hfu
  obtain ⟨c, hc, hm, hf⟩ := read_cf hfu hfit
  exact ⟨c, by rw [← hc], hm, hf⟩
set_option maxRecDepth 100000 in
theorem field_bigR {P : Program} {fs : Array Field} {n : Nat} {cs : List Value} {x : DataW H × List MemPlace} {e : TypeId} (he : P.underlying e = some (.struct fs)) (hfit : Fits P e x.1) (h : DataW.trod enc P w 0 (fun _ => true) true n e cs = some x) (j : Nat) {fl : Field}
    (hj : fs[j]? = some fl) : ∃ m y, DataW.trod enc P w 0 (fun _ => true) true m fl.type ((cs.drop fl.offset).take (P.cellsOf fl.type)) = some y ∧ Fits P fl.type y.1 := by
  obtain ⟨xs, m, _, hx, _, hlen, hf⟩ := DataW.trod_struct he h
  have hjl := (Array.getElem?_eq_some_iff.1 hj).1
  have hg := hf j fl hj
  obtain ⟨y, hy⟩ := get_some (l := xs) (k := j) (by omega)
  refine ⟨m, y, hg.trans hy, ?_⟩
  rw [hx] at hfit
  exact hfit.field he hj (by rw [List.getElem?_map, hy]; rfl)
set_option maxRecDepth 100000 in
theorem read_act {n : Nat} {cs : List Value} {x : DataW H × List MemPlace} (h : DataW.trod enc Try.prog w 0 (fun _ => true) true n 60 cs = some x) : ∃ a : AK, cs = a.cells ∧ True := by
  obtain ⟨a, ha, _⟩ := field_int Try.underlying60 h 0 rfl Try.underlying3 (by kernel_rfl)
  obtain ⟨b, hb, _⟩ := field_int Try.underlying60 h 1 rfl Try.underlying3 (by kernel_rfl)
  obtain ⟨c, hc, _⟩ := field_int Try.underlying60 h 2 rfl Try.underlying3 (by kernel_rfl)
  obtain ⟨d, hd, _⟩ := field_int Try.underlying60 h 3 rfl Try.underlying2 (by kernel_rfl)
  obtain ⟨e, he, _⟩ := field_int Try.underlying60 h 4 rfl Try.underlying2 (by kernel_rfl)
  obtain ⟨xs, m', _, _, hlen, _⟩ := DataW.trod_struct Try.underlying60 h
  have h5 : cs.length = 5 := by rw [hlen]; kernel_rfl
  refine ⟨⟨a, b, c, d, e⟩, ?_, trivial⟩
  match cs, h5 with
  | [_, _, _, _, _], _ => simp_all [AK.cells]
set_option maxRecDepth 100000 in
theorem open_case {v : Value} {d : DataW H} {p : List MemPlace} {r : Reach} {b0 : Nat} (hfit : Fits Try.prog 30 d) (hv : Value.okWide Try.prog w r b0 30 v) (h : DataW.Trod enc Try.prog w 0 (fun _ => true) true 30 v d p) :
    ∃ (c : CF) (Z : Option Addr) (cz : Nat) (acts : List AK), v = .agg (map16 c Z acts.length cz).toArray ∧ CM w c ∧ Few c ∧ Sl w (fun _ => False) 5 Z acts.length (akcells acts) ∧ acts.length ≤ cz ∧ cz ≤ maxLen := by
  obtain ⟨cs, rfl, hsz⟩ := okWide_struct Try.underlying30 hv
  obtain ⟨fuel, hfu⟩ := h
  simp only [Value.cells] at hfu
  have hlen : cs.toList.length = 16 := by rw [Array.length_toList, hsz]; kernel_rfl
  obtain ⟨m0, y0, hy0, hf0⟩ := field_bigR Try.underlying30 hfit hfu 0 rfl
  change DataW.trod enc Try.prog w 0 (fun _ => true) true m0 27 ((cs.toList.drop 0).take (Try.prog.cellsOf 27)) = some y0 at hy0
  rw [show Try.prog.cellsOf 27 = 15 from by kernel_rfl] at hy0
  obtain ⟨c, hc, hm, hf⟩ := read_cf hy0 hf0
  obtain ⟨m1, y1, hy1, hf1⟩ := field_atR Try.underlying30 hfit hfu 1 rfl (by kernel_rfl)
  obtain ⟨Z, zn, cz, acts, e1, rfl, hZ, _, b1, b2, _⟩ := sl_trodR (f := AK.cells) (k := 5) Try.underlying28 (by kernel_rfl) (by decide) (fun _ => rfl) hf1 (fun n cs x h _ => read_act h) hy1
  refine ⟨c, Z, cz, acts, ?_, hm, hf, hZ, b1, b2⟩
  have hcs : cs.toList = map16 c Z acts.length cz := by
    have h1 : cs.toList.take 15 = c.cells := hc
    have h2 : cs.toList.drop 15 = [.slice Z acts.length cz] := by
      have h3 : (cs.toList.drop 15).take 1 = [.slice Z acts.length cz] := e1
      rwa [List.take_of_length_le (by rw [List.length_drop, hlen]; decide)] at h3
    rw [← List.take_append_drop 15 cs.toList, h1, h2]
    rfl
  exact congrArg Value.agg (by rw [← hcs, Array.toArray_toList])
end
end Go.Proofs.Ytmkcphhgimlkgaa

import Derived.Test.YtafpcffhkbeloaaDoorLoM
import Derived.Test.YtafpcffhkbeloaaDoorOpenTb
namespace Go.Proofs.YtafpcffhkbeloaaDoor
open Go.ChangeShapes Go.WideShapes Go.ChangeAt Go.RowKit Go.Deep

/-! ## Sources that came in -/
section
variable {H : Type} {enc : TypeId × Value → H} {w : World}
set_option maxRecDepth 100000 in
theorem read_src {n : Nat} {cs : List Value} {x : DataW H × List MemPlace} (h : DataW.trod enc Tryd.prog w 0 (fun _ => true) true n 40 cs = some x) (hfit : Fits Tryd.prog 40 x.1) :
    ∃ s : Sr, cs = s.cells ∧ (SrOk w (fun _ => False) s ∧ s.ns.length ≤ 140737488355328) := by
  obtain ⟨a, ha, _⟩ := field_int Tryd.underlying40 h 0 rfl Tryd.underlying3 (by kernel_rfl)
  obtain ⟨m, y, hy, hf⟩ := field_atR Tryd.underlying40 hfit h 1 rfl (by kernel_rfl)
  obtain ⟨A, q, c, l, e1, rfl, h3, _, _, _, h7⟩ := sl_trodR (f := fun a => [Value.int .i64 a]) (G := fun _ => True) (k := 1) Tryd.underlying22 (by kernel_rfl) (by decide) (fun _ => rfl) hf (fun n cs x h _ => by
    obtain ⟨a, ha, _, hw⟩ := DataW.trod_int Tryd.underlying3 h
    exact ⟨a, ha, trivial⟩) hy
  rw [ints_flat] at h3
  obtain ⟨xs, m', _, _, hlen, _⟩ := DataW.trod_struct Tryd.underlying40 h
  have h5 : cs.length = 2 := by rw [hlen]; kernel_rfl
  have hc1 := at_of_take e1
  refine ⟨⟨a, A, c, l⟩, ?_, h3, ?_⟩
  · match cs, h5 with
    | [_, _], _ =>
      simp at ha hc1
      rw [ha, hc1]; rfl
  · have hb : Tryd.prog.bytesOf 3 = 8 := by kernel_rfl
    rw [hb] at h7
    unfold reachBytes at h7
    show l.length ≤ _
    omega
set_option maxRecDepth 100000 in
theorem open_src {v : Value} {d : DataW H} {p : List MemPlace} {r : Reach} {b0 : Nat} (hfit : Fits Tryd.prog 40 d) (hv : Value.okWide Tryd.prog w r b0 40 v) (h : DataW.Trod enc Tryd.prog w 0 (fun _ => true) true 40 v d p) :
    ∃ s : Sr, v = .agg s.cells.toArray ∧ SrOk w (fun _ => False) s ∧ s.ns.length ≤ 140737488355328 := by
  obtain ⟨cs, rfl, hsz⟩ := okWide_struct Tryd.underlying40 hv
  obtain ⟨fuel, hfu⟩ := h
  simp only [Value.cells] at hfu
  obtain ⟨s, hs, h1, h2⟩ := read_src hfu hfit
  exact ⟨s, by rw [← hs], h1, h2⟩
set_option maxRecDepth 100000 in
theorem open_srcs {v : Value} {d : DataW H} {p : List MemPlace} {r : Reach} {b0 : Nat} (hfit : Fits Tryd.prog 23 d) (hv : Value.okWide Tryd.prog w r b0 23 v) (h : DataW.Trod enc Tryd.prog w 0 (fun _ => true) true 23 v d p) :
    ∃ (X : Option Addr) (cx : Nat) (l : List Sr), v = .slice X l.length cx ∧ Srs w (fun _ => False) X l ∧ l.length ≤ cx ∧ cx ≤ maxLen ∧ (l.length + 1) * 32 ≤ 140737488355328 := by
  obtain ⟨A, q, c, l, h1, h2, h3, hG, h5, h6, h7⟩ := open_slR (f := Sr.cells) (G := fun s => SrOk w (fun _ => False) s ∧ s.ns.length ≤ 140737488355328) (k := 2) Tryd.underlying23 (by kernel_rfl) (by decide) (fun _ => rfl) hfit (fun n cs x h hf => read_src h hf) hv h
  subst h2
  have hb : Tryd.prog.bytesOf 40 = 32 := by kernel_rfl
  rw [hb] at h7
  unfold reachBytes at h7
  exact ⟨A, c, l, h1, ⟨h3, hG⟩, h5, h6, by omega⟩
set_option maxRecDepth 100000 in
theorem open_all {v : Value} {d : DataW H} {p : List MemPlace} {r : Reach} {b0 : Nat} (hv : Value.okWide Tryd.prog w r b0 22 v) (h : DataW.Trod enc Tryd.prog w 0 (fun _ => true) true 22 v d p) :
    ∃ (A : Option Addr) (c : Nat) (l : List Int), v = .slice A l.length c ∧ Sl w (fun _ => False) 1 A l.length (icells l) ∧ l.length ≤ c ∧ c ≤ maxLen := by
  obtain ⟨A, n, c, l, h1, h2, h3, _, h5, h6⟩ := open_ints_sl Tryd.underlying22 Tryd.underlying3 (by kernel_rfl) hv h
  subst h2
  exact ⟨A, c, l, h1, h3, h5, h6⟩
end
end Go.Proofs.YtafpcffhkbeloaaDoor

import Derived.Test.YtbellndcgagclaaOpenB
import Derived.Test.YtbellndcgagclaaAt
namespace Go.Proofs.Ytbellndcgagclaa
open Go.ChangeShapes Go.WideShapes Go.ChangeAt Go.RowKit Go.Deep

section
variable {H : Type} {enc : TypeId × Value → H} {w : World}
theorem three {cs : List Value} (h : cs.length = 3) {a b c : Value} (h0 : cs[0]? = some a) (h1 : cs[1]? = some b) (h2 : cs[2]? = some c) : cs = [a, b, c] := by
  match cs, h with
  | [_, _, _], _ => simp_all
theorem four {cs : List Value} (h : cs.length = 4) {a b c d : Value} (h0 : cs[0]? = some a) (h1 : cs[1]? = some b) (h2 : cs[2]? = some c) (h3 : cs[3]? = some d) : cs = [a, b, c, d] := by
  match cs, h with
  | [_, _, _, _], _ => simp_all
def En.wt (e : En) : Nat := e.m + 1
theorem read_en {n : Nat} {cs : List Value} {x : DataW H × List MemPlace} (h : DataW.trod enc Try.prog w 0 (fun _ => true) true n 46 cs = some x) : ∃ a : En, cs = a.cells ∧ EnOk w (fun _ => False) a ∧ a.wt ≤ Rows.uptoBulk x.1 := by
  obtain ⟨t, ht, _⟩ := field_int Try.underlying46 h 0 rfl Try.underlying2 (by kernel_rfl)
  obtain ⟨k, hk, _⟩ := field_int Try.underlying46 h 1 rfl Try.underlying3 (by kernel_rfl)
  obtain ⟨m, y, hy, hb⟩ := field_atB Try.underlying46 h 2 rfl (by kernel_rfl)
  obtain ⟨A, q, c, l, h1, h2, h3, h4, h5, h6, h7⟩ := sl_trod_intsB Try.underlying44 Try.underlying5 (by kernel_rfl) hy
  obtain ⟨xs, m', _, _, hlen, _⟩ := DataW.trod_struct Try.underlying46 h
  have h3' : cs.length = 3 := by rw [hlen]; kernel_rfl
  refine ⟨⟨t, k, A, q, c, l⟩, three h3' ht hk (at_of_take h1), ⟨h3, ?_, h5⟩, by simp only [En.wt]; omega⟩
  intro b hb
  have := h4 b hb
  simp only [Lit.wf, Bool.and_eq_true, decide_eq_true_eq] at this
  have e1 : IntKind.u8.min = 0 := by rfl
  have e2 : IntKind.u8.max = 255 := by rfl
  omega
def LAct.wt (a : LAct) : Nat := (a.es.map En.wt).sum + 1
theorem read_act {n : Nat} {cs : List Value} {x : DataW H × List MemPlace} (h : DataW.trod enc Try.prog w 0 (fun _ => true) true n 33 cs = some x) : ∃ a : LAct, cs = a.cells ∧ Ls w (fun _ => False) a.X a.n a.c a.es ∧ a.wt ≤ Rows.uptoBulk x.1 := by
  obtain ⟨m0, y0, hy0, _⟩ := field_atB Try.underlying33 h 0 rfl (by kernel_rfl)
  obtain ⟨p, hp, _⟩ := DataW.trod_bool Try.underlying4 hy0
  obtain ⟨t, ht, _⟩ := field_int Try.underlying33 h 1 rfl Try.underlying2 (by kernel_rfl)
  obtain ⟨k, hk, _⟩ := field_int Try.underlying33 h 2 rfl Try.underlying2 (by kernel_rfl)
  obtain ⟨m, y, hy, hb⟩ := field_atB Try.underlying33 h 3 rfl (by kernel_rfl)
  obtain ⟨A, q, c, l, h1, h2, h3, h4, h5, h6, h7⟩ := sl_trodB (f := En.cells) (g := En.wt) (k := 3) Try.underlying26 (by kernel_rfl) (by decide) (fun _ => rfl) (fun n cs x h => read_en h) hy
  obtain ⟨xs, m', _, _, hlen, _⟩ := DataW.trod_struct Try.underlying33 h
  have h4' : cs.length = 4 := by rw [hlen]; kernel_rfl
  refine ⟨⟨p, t, k, A, q, c, l⟩, four h4' (at_of_take hp) ht hk (at_of_take h1), ⟨h2, h3, h4, h5⟩, by simp only [LAct.wt]; omega⟩
theorem open_acts {v : Value} {d : DataW H} {p : List MemPlace} {r : Reach} {b0 : Nat} (hv : Value.okWide Try.prog w r b0 22 v) (h : DataW.Trod enc Try.prog w 0 (fun _ => true) true 22 v d p) :
    ∃ (B : Option Addr) (m c : Nat) (l : List LAct), v = .slice B m c ∧ As w (fun _ => False) B m c l ∧ (l.map LAct.wt).sum + 1 ≤ Rows.uptoBulk d := by
  obtain ⟨B, m, c, l, h1, h2, h3, h4, h5, h6, h7⟩ := open_slB (f := LAct.cells) (g := LAct.wt) (k := 4) Try.underlying22 (by kernel_rfl) (by decide) (fun _ => rfl) (fun n cs x h => read_act h) hv h
  exact ⟨B, m, c, l, h1, ⟨h2, h3, h4, h5⟩, h7⟩
theorem Few.of_wt {l : List LAct} (h : (l.map LAct.wt).sum ≤ 1048576) : Few l := by
  have hl := sum_len LAct.wt (fun a => by simp [LAct.wt]) l
  refine ⟨by omega, ?_, ?_⟩
  · have : ∀ l : List LAct, (ents l).length ≤ (l.map LAct.wt).sum := by
      intro l
      induction l with
      | nil => simp [ents]
      | cons a l ih =>
        have h1 := sum_len En.wt (fun e => by simp [En.wt]) a.es
        simp only [ents, List.flatMap_cons, List.length_append, List.map_cons, List.sum_cons, LAct.wt] at *
        omega
    have := this l
    omega
  · intro a ha e he
    have h1 := sum_mem LAct.wt ha
    have h2 := sum_mem En.wt he
    simp only [LAct.wt] at h1
    simp only [En.wt] at h1 h2
    omega
end
end Go.Proofs.Ytbellndcgagclaa

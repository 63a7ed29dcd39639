import Derived.Test.YtmllpapkgfclkaaScT
import Derived.Test.YtmllpapkgfclkaaRegU
import Derived.Deep.Cut
import Derived.Laws.Rows
import Derived.Laws.Tables
namespace Go.Proofs.Ytmllpapkgfclkaa
open Go.RowKit

/-! ## Records of three ints; edges -/
structure E3 where
  a : Int
  b : Int
  c : Int
deriving DecidableEq
def E3.cells (e : E3) : List Value := [.int .i64 e.a, .int .i64 e.b, .int .i64 e.c]
def icellsC (l : List Int) : List Value := l.map (.int .i64)
def e3cells (l : List E3) : List Value := l.flatMap E3.cells
def inB (i n : Int) : Bool := decide (0 ≤ i) && decide (i < n)
def edgeB (n : Int) (e : E3) : Bool := inB e.a n && inB e.b n && (decide (1 ≤ e.c) && decide (e.c ≤ 1048576) || e.c == 4611686018427387904)
theorem ints_at {w : World} {Av : Nat → Prop} {A : Option Addr} {n : Nat} {l : List Int} (h : Sl w Av 1 A n (icellsC l)) {k : Nat} {a : Int} (ha : l[k]? = some a) : ∃ b off, A = some ⟨b, off, none⟩ ∧ b < w.heap.size ∧
    w.cell? ⟨b, off + k, none⟩ = some (.int .i64 a) := by
  have hk := (List.getElem?_eq_some_iff.1 ha).1
  have hl : l.length = n := by have := h.len; simpa [icellsC] using this
  obtain ⟨b, off, e, hb, _, hr⟩ := h.at_ (by omega)
  exact ⟨b, off, e, hb, hr k _ (by simp [icellsC, ha])⟩
theorem e3_at {w : World} {Av : Nat → Prop} {A : Option Addr} {n : Nat} {l : List E3} (h : Sl w Av 3 A n (e3cells l)) {k : Nat} {a : E3} (ha : l[k]? = some a) : ∃ b off, A = some ⟨b, off, none⟩ ∧ b < w.heap.size ∧
    w.cell? ⟨b, off + k * 3, none⟩ = some (.int .i64 a.a) ∧ w.cell? ⟨b, off + k * 3 + 1, none⟩ = some (.int .i64 a.b) ∧ w.cell? ⟨b, off + k * 3 + 2, none⟩ = some (.int .i64 a.c) := by
  have hk := (List.getElem?_eq_some_iff.1 ha).1
  have hl : l.length = n := by
    have := h.len
    rw [show (e3cells l).length = l.length * 3 from flat_len E3.cells 3 (fun _ => rfl) l] at this
    omega
  obtain ⟨b, off, e, hb, _, hr⟩ := h.at_ (by omega)
  have g := fun j (hj : j < 3) u (hu : a.cells[j]? = some u) => hr (k * 3 + j) u (by rw [show (e3cells l)[k * 3 + j]? = (l[k]?).bind (fun a => a.cells[j]?) from flat_get E3.cells 3 (fun _ => rfl) l k j hj, ha]; exact hu)
  exact ⟨b, off, e, hb, g 0 (by omega) _ rfl, g 1 (by omega) _ rfl, g 2 (by omega) _ rfl⟩
theorem EEd : Elem Try.prog 22 49 3 24 (.agg #[.int .i64 0, .int .i64 0, .int .i64 0]) := ⟨Try.underlying22, by kernel_rfl, rfl, by decide⟩
theorem e3_one (l : List E3) : ∀ u ∈ e3cells l, u.oneCell' = true := by
  intro u hu
  obtain ⟨e, _, he⟩ := List.mem_flatMap.1 hu
  simp only [E3.cells, List.mem_cons, List.not_mem_nil, or_false] at he
  rcases he with rfl | rfl | rfl <;> rfl
theorem e3_app (l m : List E3) : e3cells (l ++ m) = e3cells l ++ e3cells m := by simp [e3cells]
end Go.Proofs.Ytmllpapkgfclkaa

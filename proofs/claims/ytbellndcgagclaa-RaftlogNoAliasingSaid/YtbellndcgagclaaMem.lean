import Derived.Test.YtbellndcgagclaaPlain
import Derived.Laws.BytesArg
namespace Go.Proofs.Ytbellndcgagclaa
open Go.RowKit

/-! ## Entries in memory -/
theorem E26 : Elem Try.prog 26 46 3 40 (.agg #[.int .i64 0, .int .i64 0, .slice none 0 0]) := ⟨Try.underlying26, by kernel_rfl, rfl, by decide⟩
theorem E44 : Elem Try.prog 44 5 1 1 (.int .u8 0) := ⟨Try.underlying44, by kernel_rfl, rfl, by decide⟩

structure En where
  t : Int
  k : Int
  A : Option Addr
  m : Nat
  c : Nat
  body : List Int
def En.cells (e : En) : List Value := [.int .i64 e.t, .int .i64 e.k, .slice e.A e.m e.c]
def En.val (e : En) : Value := .agg #[.int .i64 e.t, .int .i64 e.k, .slice e.A e.m e.c]
def En.pe (e : En) : PE := (e.t, e.k, e.body)
def enFlat (l : List En) : List Value := l.flatMap En.cells
def ubs (l : List Int) : List Value := l.map (Value.int .u8)

/-- an entry's body reads, and its block is none of Av -/
structure EnOk (w : World) (Av : Nat → Prop) (e : En) : Prop where
  body : Sl w Av 1 e.A e.m (ubs e.body)
  bytes : ∀ b ∈ e.body, 0 ≤ b ∧ b ≤ 255
  cap : e.m ≤ e.c

/-- a list of entries that reads -/
structure Ls (w : World) (Av : Nat → Prop) (X : Option Addr) (n c : Nat) (l : List En) : Prop where
  len : l.length = n
  sl : Sl w Av 3 X n (enFlat l)
  el : ∀ e ∈ l, EnOk w Av e
  cap : n ≤ c

section
variable {w w' : World} {Av Av' S : Nat → Prop} {e : En} {X : Option Addr} {n c : Nat} {l : List En}
theorem EnOk.len (h : EnOk w Av e) : e.body.length = e.m := by have := h.body.len; simpa [ubs] using this
theorem EnOk.keep (h : EnOk w Av e) (hk : Keep S w w') (hS : ∀ i, i < w.heap.size → S i → Av i) : EnOk w' Av e := ⟨h.body.keep hk hS, h.bytes, h.cap⟩
theorem EnOk.same (h : EnOk w Av e) (hk : Same w w') : EnOk w' Av e := h.keep hk (fun _ _ f => f.elim)
theorem EnOk.wide (h : EnOk w Av e) (hS : ∀ i, i < w.heap.size → Av' i → Av i) : EnOk w Av' e := ⟨h.body.wide hS, h.bytes, h.cap⟩
theorem Ls.keep (h : Ls w Av X n c l) (hk : Keep S w w') (hS : ∀ i, i < w.heap.size → S i → Av i) : Ls w' Av X n c l := ⟨h.len, h.sl.keep hk hS, fun e he => (h.el e he).keep hk hS, h.cap⟩
theorem Ls.same (h : Ls w Av X n c l) (hk : Same w w') : Ls w' Av X n c l := h.keep hk (fun _ _ f => f.elim)
theorem Ls.wide (h : Ls w Av X n c l) (hS : ∀ i, i < w.heap.size → Av' i → Av i) : Ls w Av' X n c l := ⟨h.len, h.sl.wide hS, fun e he => (h.el e he).wide hS, h.cap⟩
theorem Ls.nil (w : World) (Av : Nat → Prop) : Ls w Av none 0 0 [] := ⟨rfl, Sl.nil _ _ _ _, by simp, Nat.le_refl _⟩
theorem enFlat_get (l : List En) (i j : Nat) (hj : j < 3) : (enFlat l)[i * 3 + j]? = (l[i]?).bind (fun s => s.cells[j]?) := flat_get En.cells 3 (fun _ => rfl) l i j hj
theorem enFlat_len (l : List En) : (enFlat l).length = l.length * 3 := flat_len En.cells 3 (fun _ => rfl) l
theorem enFlat_one (l : List En) : ∀ u ∈ enFlat l, u.oneCell' = true := by
  intro u hu
  simp only [enFlat, List.mem_flatMap, En.cells] at hu
  obtain ⟨e, _, hu⟩ := hu
  simp at hu
  rcases hu with rfl | rfl | rfl <;> rfl
theorem ubs_one (l : List Int) : ∀ u ∈ ubs l, u.oneCell' = true := by
  intro u hu
  simp only [ubs, List.mem_map] at hu
  obtain ⟨_, _, rfl⟩ := hu
  rfl
/-- the cells of one entry of a list -/
theorem Ls.at_ (h : Ls w Av X n c l) {i : Nat} {e : En} (he : l[i]? = some e) : ∃ b off, X = some ⟨b, off, none⟩ ∧
    w.cell? ⟨b, off + i * 3, none⟩ = some (.int .i64 e.t) ∧ w.cell? ⟨b, off + i * 3 + 1, none⟩ = some (.int .i64 e.k) ∧ w.cell? ⟨b, off + i * 3 + 2, none⟩ = some (.slice e.A e.m e.c) := by
  have hi := (List.getElem?_eq_some_iff.1 he).1
  obtain ⟨b, off, rfl, hb, _, hr⟩ := h.sl.at_ (by have := h.len; omega)
  refine ⟨b, off, rfl, ?_, ?_, ?_⟩
  · exact hr (i * 3) _ (by have := enFlat_get l i 0 (by omega); rw [he] at this; simpa [En.cells] using this)
  · exact hr (i * 3 + 1) _ (by have := enFlat_get l i 1 (by omega); rw [he] at this; simpa [En.cells] using this)
  · exact hr (i * 3 + 2) _ (by have := enFlat_get l i 2 (by omega); rw [he] at this; simpa [En.cells] using this)
theorem enFlat_take (l : List En) (m : Nat) : (enFlat l).take (m * 3) = enFlat (l.take m) := by
  induction l generalizing m with
  | nil => simp [enFlat]
  | cons a l ih =>
    cases m with
    | zero => simp [enFlat]
    | succ m =>
      have : (m + 1) * 3 = a.cells.length + m * 3 := by simp [En.cells]; omega
      simp only [enFlat, List.flatMap_cons, List.take_succ_cons, this] at ih ⊢
      rw [List.take_append, Nat.add_sub_cancel_left, ih, List.take_of_length_le (by omega)]
theorem enFlat_drop (l : List En) (m : Nat) : (enFlat l).drop (m * 3) = enFlat (l.drop m) := by
  induction l generalizing m with
  | nil => simp [enFlat]
  | cons a l ih =>
    cases m with
    | zero => simp [enFlat]
    | succ m =>
      have : (m + 1) * 3 = a.cells.length + m * 3 := by simp [En.cells]; omega
      simp only [enFlat, List.flatMap_cons, List.drop_succ_cons, this] at ih ⊢
      rw [List.drop_append, Nat.add_sub_cancel_left, ih, List.drop_of_length_le (by omega), List.nil_append]
theorem Ls.drop (h : Ls w Av X n c l) (i : Nat) (hi : i ≤ n) : Ls w Av (cutA X c i 3) (n - i) (c - i) (l.drop i) :=
  ⟨by rw [List.length_drop, h.len], by rw [← enFlat_drop]; exact h.sl.drop c i h.cap hi, fun e he => h.el e (List.mem_of_mem_drop he), by have := h.cap; omega⟩
theorem Ls.take (h : Ls w Av X n c l) (i : Nat) (hi : i ≤ n) : Ls w Av X i c (l.take i) :=
  ⟨by rw [List.length_take, h.len]; omega, by rw [← enFlat_take]; exact h.sl.take i hi, fun e he => h.el e (List.mem_of_mem_take he), by have := h.cap; omega⟩
end

/-! ### Bodies as strings -/
theorem strOfNums_inj : ∀ {a b : List Int}, (∀ x ∈ a, 0 ≤ x ∧ x ≤ 255) → (∀ x ∈ b, 0 ≤ x ∧ x ≤ 255) → strOfNums a = strOfNums b → a = b := by
  intro a b ha hb h
  have h2 : (a.map fun n => UInt8.ofNat n.toNat) = (b.map fun n => UInt8.ofNat n.toNat) := by
    rw [← strOfNums_data a, ← strOfNums_data b, h]
  clear h
  induction a generalizing b with
  | nil => cases b with
    | nil => rfl
    | cons y b => simp at h2
  | cons x a ih => cases b with
    | nil => simp at h2
    | cons y b =>
      simp only [List.map_cons, List.cons.injEq] at h2
      have hx := ha x (by simp)
      have hy := hb y (by simp)
      have e : x.toNat % 256 = y.toNat % 256 := by
        have := congrArg UInt8.toNat h2.1
        simpa [UInt8.toNat_ofNat'] using this
      have e2 : x = y := by omega
      rw [e2, ih (fun z hz => ha z (by simp [hz])) (fun z hz => hb z (by simp [hz])) h2.2]
theorem str_of (w : World) (Av : Nat → Prop) (A : Option Addr) (m c : Nat) (xs : List Int) (h : Sl w Av 1 A m (ubs xs)) : (convert 44 9 (.slice A m c)).run Try.prog w = .ok (.string (strOfNums xs)) w := by
  have hl : xs.length = m := by have := h.len; simpa [ubs] using this
  rcases A with _ | ad
  · have hm : m = 0 := by
      rcases Nat.eq_zero_or_pos m with h0 | h0
      · exact h0
      · obtain ⟨_, _, h1, _⟩ := h.at_ h0; cases h1
    subst hm
    have : xs = [] := List.eq_nil_of_length_eq_zero hl
    subst this
    exact run_convert_bytes_nil (P := Try.prog) w 44 5 Try.underlying44 Try.underlying5 0 c 9 Try.underlying9
  · rcases Nat.eq_zero_or_pos m with h0 | h0
    · subst h0
      have : xs = [] := List.eq_nil_of_length_eq_zero hl
      subst this
      rw [run_convert_bytes_string w 44 9 5 (some ad) 0 c Try.underlying44 Try.underlying5 Try.underlying9]
      simp [Conv.bytesToString, loadCells, loadCellsFrom]
      rfl
    · obtain ⟨b, off, he, _, _, hr⟩ := h.at_ h0
      cases he
      refine run_convert_bytes_arg (P := Try.prog) w 44 5 Try.underlying44 Try.underlying5 b off m c xs hl (fun i hi => ?_) 9 Try.underlying9
      refine hr i _ ?_
      simp [ubs, List.getD, List.getElem?_eq_getElem (show i < xs.length by omega)]
def peq (a b : PE) : Bool := decide (a = b)
end Go.Proofs.Ytbellndcgagclaa

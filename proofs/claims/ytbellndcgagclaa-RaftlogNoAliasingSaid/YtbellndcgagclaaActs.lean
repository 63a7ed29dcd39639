import Derived.Test.YtbellndcgagclaaLog
namespace Go.Proofs.Ytbellndcgagclaa
open Go.RowKit

/-! ## small -/
structure LAct where
  put : Bool
  prev : Int
  term : Int
  X : Option Addr
  n : Nat
  c : Nat
  es : List En
def LAct.cells (a : LAct) : List Value := [.bool a.put, .int .i64 a.prev, .int .i64 a.term, .slice a.X a.n a.c]
def actFlat (l : List LAct) : List Value := l.flatMap LAct.cells
/-- a list of operations that reads -/
structure As (w : World) (Av : Nat → Prop) (X : Option Addr) (n c : Nat) (l : List LAct) : Prop where
  len : l.length = n
  sl : Sl w Av 4 X n (actFlat l)
  el : ∀ a ∈ l, Ls w Av a.X a.n a.c a.es
  cap : n ≤ c
theorem actFlat_get (l : List LAct) (i j : Nat) (hj : j < 4) : (actFlat l)[i * 4 + j]? = (l[i]?).bind (fun s => s.cells[j]?) := flat_get LAct.cells 4 (fun _ => rfl) l i j hj
theorem actFlat_len (l : List LAct) : (actFlat l).length = l.length * 4 := flat_len LAct.cells 4 (fun _ => rfl) l
section
variable {w w' : World} {Av Av' S : Nat → Prop} {X : Option Addr} {n c : Nat} {l : List LAct}
theorem As.keep (h : As w Av X n c l) (hk : Keep S w w') (hS : ∀ i, i < w.heap.size → S i → Av i) : As w' Av X n c l := ⟨h.len, h.sl.keep hk hS, fun e he => (h.el e he).keep hk hS, h.cap⟩
theorem As.same (h : As w Av X n c l) (hk : Same w w') : As w' Av X n c l := h.keep hk (fun _ _ f => f.elim)
theorem As.wide (h : As w Av X n c l) (hS : ∀ i, i < w.heap.size → Av' i → Av i) : As w Av' X n c l := ⟨h.len, h.sl.wide hS, fun e he => (h.el e he).wide hS, h.cap⟩
theorem As.at_ (h : As w Av X n c l) {i : Nat} {e : LAct} (he : l[i]? = some e) : ∃ b off, X = some ⟨b, off, none⟩ ∧
    w.cell? ⟨b, off + i * 4, none⟩ = some (.bool e.put) ∧ w.cell? ⟨b, off + i * 4 + 1, none⟩ = some (.int .i64 e.prev) ∧ w.cell? ⟨b, off + i * 4 + 2, none⟩ = some (.int .i64 e.term) ∧ w.cell? ⟨b, off + i * 4 + 3, none⟩ = some (.slice e.X e.n e.c) := by
  have hi := (List.getElem?_eq_some_iff.1 he).1
  obtain ⟨b, off, rfl, hb, _, hr⟩ := h.sl.at_ (by have := h.len; omega)
  refine ⟨b, off, rfl, ?_, ?_, ?_, ?_⟩
  · exact hr (i * 4) _ (by have := actFlat_get l i 0 (by omega); rw [he] at this; simpa [LAct.cells] using this)
  · exact hr (i * 4 + 1) _ (by have := actFlat_get l i 1 (by omega); rw [he] at this; simpa [LAct.cells] using this)
  · exact hr (i * 4 + 2) _ (by have := actFlat_get l i 2 (by omega); rw [he] at this; simpa [LAct.cells] using this)
  · exact hr (i * 4 + 3) _ (by have := actFlat_get l i 3 (by omega); rw [he] at this; simpa [LAct.cells] using this)
end

/-- what Small says: the bodies -/
def smallSum : List En → Nat
  | [] => 0
  | e :: es => e.m + 1 + smallSum es
theorem smallSum_snoc (l : List En) (e : En) : smallSum (l ++ [e]) = smallSum l + e.m + 1 := by
  induction l with
  | nil => simp [smallSum]
  | cons a l ih => simp only [List.cons_append, smallSum, ih]; omega
theorem smallSum_len (l : List En) : l.length ≤ smallSum l := by
  induction l with
  | nil => simp [smallSum]
  | cons a l ih => simp only [List.length_cons, smallSum]; omega
def smallE (l : List En) : Bool := decide (smallSum l ≤ 20000) && decide (l.length ≤ 60)
theorem smallSum_take {l : List En} {k : Nat} {e : En} (h : l[k]? = some e) : smallSum (l.take (k + 1)) = smallSum (l.take k) + e.m + 1 := by rw [take_snoc h, smallSum_snoc]
theorem smallSum_mono (l : List En) (k : Nat) : smallSum (l.take k) ≤ smallSum l := by
  induction l generalizing k with
  | nil => simp [smallSum]
  | cons a l ih =>
    cases k with
    | zero => simp [smallSum]
    | succ k => simp only [List.take_succ_cons, smallSum]; have := ih k; omega
def SmallPost (w : World) (b : Bool) (e : Ending) (w' : World) : Prop := e = .returned (.bool b) ∧ w = w'
set_option maxHeartbeats 2000000 in
set_option maxRecDepth 100000 in
theorem rsmall_any (w : World) (Av : Nat → Prop) (X : Option Addr) (n c : Nat) (l : List En) (h : Ls w Av X n c l) (hc : ∀ e ∈ l, e.m ≤ 1048576) (hn : n ≤ 1048576) : Calls Try.prog 36 #[.slice X n c] w (SmallPost w (smallE l)) := by
  have Hl := hid h.len
  have HL := hid h
  have Hc := hid hc
  clear h hc
  go_enter Try.func36, Try.ntmps36
  go_wp2_with fail
  go_loop [3, 4] (fun s i => ∃ k z : Nat, k ≤ n ∧ z ≤ 20000 ∧ i = .int .i64 k ∧ s = .int .i64 z ∧ Hid (z = smallSum (l.take k))) (fun _ i => n - (RowKit.intOf i).toNat)
  case atStart => exact ⟨0, 0, by omega, by omega, rfl, rfl, hid (by simp [smallSum])⟩
  case round =>
    obtain ⟨k, z, hk, hz, rfl, rfl, HZ⟩ := hrel
    by_cases hkn : k < n
    · obtain ⟨e, he⟩ := get_some (l := l) (k := k) (by have := Hl.out; omega)
      obtain ⟨b, off, rfl, c0, c1, c2⟩ := HL.out.at_ he
      have hst := hid (smallSum_take he)
      have hmo := hid (smallSum_mono l (k + 1))
      have hk1 : (k : Int) < (n : Int) := by omega
      have hem : e.m ≤ 1048576 := Hc.out e (List.mem_of_getElem? he)
      clear he
      by_cases h2 : z + e.m + 1 ≤ 20000
      · have h2' : (z : Int) + (e.m : Int) + 1 ≤ 20000 := by omega
        go_wp2_with fail
        go_round
        case rel => exact ⟨k + 1, z + e.m + 1, by omega, h2, by go_num, by go_num, hid (by rw [hst.out, ← HZ.out])⟩
        case measure => simp [RowKit.intOf]; omega
      · have h2' : 20000 < (z : Int) + (e.m : Int) + 1 := by omega
        have hf := hid (show smallE l = false by
          have h1 := hst.out
          have h3 := hmo.out
          have h4 := HZ.out
          have : ¬ smallSum l ≤ 20000 := by omega
          simp [smallE, this])
        go_wp2_with fail
        go_ret
        exact ⟨by rw [hf.out]; rfl, rfl⟩
    · obtain rfl : k = n := by omega
      have hq := hid (show smallE l = decide ((k : Int) ≤ 60) by
        have h4 := HZ.out
        have h5 := Hl.out
        rw [List.take_of_length_le (by omega)] at h4
        have : smallSum l ≤ 20000 := by omega
        simp only [smallE, this, h5]
        simp
        omega)
      go_wp2_with fail
      go_ret
      exact ⟨by rw [hq.out]; rfl, rfl⟩
end Go.Proofs.Ytbellndcgagclaa

import Derived.Test.YtohgclbgjdpggaaWireP
namespace Go.Proofs.Ytohgclbgjdpggaa
open Go.RowKit

/-! ## What a reader returns is a valid value -/
theorem i64_zero : i64ok 0 := by unfold i64ok; omega
theorem rdInt_i64 (s : RS) : i64ok (rdInt s).1 := by
  by_cases h : (rdInt s).2.err = 0
  · by_cases h0 : s.err = 0
    · rw [rs_of h0] at h ⊢; exact (rdInt_of h).2
    · rw [rdInt_err h0]; exact i64_zero
  · rw [rdInt_bad h]; exact i64_zero
theorem rdBytes_len (s : RS) : (rdBytes s).1.length ≤ s.rest.length := by
  unfold rdBytes
  split
  · simp
  · have := rdMany_len s; simp; omega
theorem rdL_len : ∀ (n : Nat) (acc : List Int) (s : RS), (rdL n acc s).1.length ≤ acc.length + n
  | 0, acc, s => by simp [rdL]
  | n + 1, acc, s => by
    rw [rdL]
    split
    · have := rdL_len n (acc ++ [(rdInt s).1]) (rdInt s).2; simp at this; omega
    · simp
theorem rdInts_len (s : RS) : (rdInts s).1.length ≤ s.rest.length := by
  unfold rdInts
  by_cases h : (rdMany s).2.err = 0
  · have h1 := rdMany_fit h
    have h2 := rdMany_len s
    have h3 := rdL_len (rdMany s).1.toNat [] (rdMany s).2
    simp at h3; omega
  · rw [rdMany_bad h]; simp [rdL]
theorem rdInts_i64 (s : RS) : ∀ x ∈ (rdInts s).1, i64ok x := by
  by_cases h0 : s.err = 0
  · by_cases h : (rdInts s).2.err = 0
    · rw [rs_of h0] at h ⊢; exact (rdInts_of h).2
    · unfold rdInts at h ⊢
      by_cases h1 : (rdMany s).2.err = 0
      · rw [rdL_bad _ _ _ h1 h]; simp
      · rw [rdMany_bad h1]; simp [rdL]
  · rw [rdInts_err h0]; simp
theorem getT_ok (k : Int) (h0 : 0 ≤ k) (h4 : k ≤ 4) (s : RS) (hs : s.rest.length ≤ 1000000) : OkT (getT k s).1 := by
  have a := rdInt_i64 s
  have b := rdBytes_len s
  have c := rdInts_len s
  have d := rdInts_i64 s
  have hk : k = 0 ∨ k = 1 ∨ k = 2 ∨ k = 3 ∨ k = 4 := by omega
  rcases hk with rfl | rfl | rfl | rfl | rfl <;> simp only [getT]
  · exact ⟨by simp, by simp, a, by simp, by simp, by simp⟩
  · exact ⟨by simp, by simp, i64_zero, by simp, by simp, by simp⟩
  · exact ⟨by simp, by simp, i64_zero, by simp; omega, by simp, by simp⟩
  · exact ⟨by simp, by simp, i64_zero, by simp; omega, by simp, by simp⟩
  · exact ⟨by simp, by simp, i64_zero, by simp, by simp; omega, by simpa using d⟩
theorem rdL_rest : ∀ (n : Nat) (acc : List Int) (s : RS), (rdL n acc s).2.rest.length ≤ s.rest.length
  | 0, acc, s => by simp [rdL]
  | n + 1, acc, s => by
    rw [rdL]
    have h1 := rdInt_len s
    split
    · have := rdL_rest n (acc ++ [(rdInt s).1]) (rdInt s).2; omega
    · exact h1
theorem getT_len (k : Int) (s : RS) : (getT k s).2.rest.length ≤ s.rest.length := by
  have h1 := rdInt_len s
  have h2 := rdMany_len s
  unfold getT
  split
  · exact h1
  · split
    · unfold rdBool
      split
      · exact Nat.le_refl _
      · split
        · simp
        · rename_i heq; split
          · simp
          · rw [heq]; simp
    · split
      · unfold rdBytes
        split
        · exact h2
        · simp; omega
      · split
        · unfold rdInts
          exact Nat.le_trans (rdL_rest _ _ _) h2
        · exact Nat.le_refl _
theorem endE_ok {s : RS} (h : endE s = 0) : s.err = 0 ∧ s.rest = [] := by
  unfold endE at h
  split at h
  · rename_i h0
    split at h
    · rename_i h1; exact ⟨h0, h1⟩
    · omega
  · rename_i h0; exact absurd h h0
theorem ETh : Elem Try.prog 38 33 5 64 (.agg #[.int .i64 0, .int .i64 0, .bool false, .string ⟨#[]⟩, .slice none 0 0]) := ⟨Try.underlying38, by kernel_rfl, rfl, by decide⟩
theorem tFlat_one (l : List Tm) : ∀ u ∈ tFlat l, u.oneCell' = true := by
  intro u hu
  simp only [tFlat, List.mem_flatMap, Tm.cells] at hu
  obtain ⟨x, _, hx⟩ := hu
  simp at hx
  rcases hx with rfl | rfl | rfl | rfl | rfl <;> rfl
theorem tFlat_snoc (l : List Tm) (x : Tm) : tFlat (l ++ [x]) = tFlat l ++ x.cells := by simp [tFlat]
theorem tFlat_len (l : List Tm) : (tFlat l).length = l.length * 5 := by rw [tFlat, flat_len Tm.cells 5 (fun _ => rfl)]

/-- the values that were read so far, and the reader -/
def CanI (w : World) (rb base : Nat) (bs : List UInt8) (k : Nat) (lv : Value) (wr : World) : Prop :=
  ∃ (xs : List Tm) (L : Option Addr) (cl : Nat) (s : RS) (A : Option Addr) (n c : Nat), lv = .slice L k cl ∧ Own wr base 33 5 (.slice L k cl) k (tFlat xs) ∧ xs.length = k ∧
    (∀ x ∈ xs, TmOk wr (fun i => i = rb ∨ (Value.slice L k cl).ownBlock = some i) x ∧ OkT x.pt) ∧ (s.err = 0 → bs = putAll (xs.map Tm.pt) ++ s.rest) ∧ s.rest.length ≤ bs.length ∧
    Rd wr rb (fun i => base ≤ i) A n c s ∧ Same w wr ∧ base ≤ wr.heap.size
end Go.Proofs.Ytohgclbgjdpggaa

import Derived.Test.YtmkcphhgimlkgaaLeQ
import Derived.Deep.DeepMust
namespace Go.Proofs.Ytmkcphhgimlkgaa
open Go.RowKit

theorem E24 : Elem Try.prog 22 3 1 8 (.int .i64 0) := ⟨Try.underlying22, by kernel_rfl, rfl, by decide⟩
theorem ints_one (hs : List Int) : ∀ u ∈ hs.map (Value.int .i64), u.oneCell' = true := by
  intro u hu; simp at hu; obtain ⟨a, _, rfl⟩ := hu; rfl
/-- an empty literal of the call's own -/
theorem Own.lit0 (w : World) (e : TypeId) (size : Nat) : Own (w.alloc (.cells #[] e)) w.heap.size e size (.slice (some ⟨w.heap.size, 0, none⟩) 0 0) 0 [] :=
  Own.of_blk (Nat.le_refl _) (Blk.made w e #[]) (Nat.le_refl _) (by simp) (by simp) (by simp)



theorem new_bad (w : World) (A : Option Addr) (n c : Nat) (len : Int) (h : n < 1 ∨ 64 < n ∨ vL len = false) :
    Calls Try.prog 46 #[.slice A n c, .int .i64 len] w fun e w' => e = .returned (.tuple #[.pointer none, .int .i64 1]) ∧ w = w' := by
  have hc : n < 1 ∨ (1 ≤ n ∧ 64 < n) ∨ (1 ≤ n ∧ n ≤ 64 ∧ vL len = false) := by
    rcases h with h | h | h
    · exact .inl h
    · exact .inr (.inl ⟨by omega, h⟩)
    · by_cases h1 : n < 1
      · exact .inl h1
      · by_cases h2 : 64 < n
        · exact .inr (.inl ⟨by omega, h2⟩)
        · exact .inr (.inr ⟨by omega, by omega, h⟩)
  clear h
  rcases hc with h | ⟨h0, h⟩ | ⟨h0, h1, h⟩
  all_goals
    go_enter Try.func46, Try.ntmps46
    go_wp2_with (go_at_call 68; refine (vL_any _ _).mono ?_; rintro e w' ⟨rfl, rfl⟩)
    go_ret2
    exact ⟨rfl, rfl⟩
theorem rnew_bad (w : World) (A : Option Addr) (n c : Nat) (len : Int) (h : n < 1 ∨ 64 < n ∨ vL len = false) :
    Calls Try.prog 49 #[.slice A n c, .int .i64 len] w fun e w' => e = .returned (.tuple #[.slice none 0 0, .int .i64 1]) ∧ w = w' := by
  have hc : n < 1 ∨ (1 ≤ n ∧ 64 < n) ∨ (1 ≤ n ∧ n ≤ 64 ∧ vL len = false) := by
    rcases h with h | h | h
    · exact .inl h
    · exact .inr (.inl ⟨by omega, h⟩)
    · by_cases h1 : n < 1
      · exact .inl h1
      · by_cases h2 : 64 < n
        · exact .inr (.inl ⟨by omega, h2⟩)
        · exact .inr (.inr ⟨by omega, by omega, h⟩)
  clear h
  rcases hc with h | ⟨h0, h⟩ | ⟨h0, h1, h⟩
  all_goals
    go_enter Try.func49, Try.ntmps49
    go_wp2_with (go_at_call 75; refine (rL_any _ _).mono ?_; rintro e w' ⟨rfl, rfl⟩)
    go_ret2
    exact ⟨rfl, rfl⟩


end Go.Proofs.Ytmkcphhgimlkgaa

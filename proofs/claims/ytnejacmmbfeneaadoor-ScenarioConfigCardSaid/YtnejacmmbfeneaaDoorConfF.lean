import Derived.Test.YtnejacmmbfeneaaDoorConfC
import Derived.Test.YtnejacmmbfeneaaDoorConfE
import Derived.Deep.Cut
namespace Go.Proofs.YtnejacmmbfeneaaDoor
open Go.RowKit Go.PlainAid

section
variable (w : World)

/-! ## slices.ContainsFunc -/
def IdxPost (w : World) (b : Bool) (e : Ending) (w' : World) : Prop := ∃ i : Int, e = .returned (.int .i64 i) ∧ decide (0 ≤ i) = !b ∧ w = w'
/-! ## The number of the first problem -/
def VB4 (c : CF) : Prop := 1 ≤ c.cen ∧ c.cen ≤ 9 ∧ 1 ≤ (c.dis.length : Int) ∧ (c.dis.length : Int) ≤ 4096
def disB (c : CF) : Bool := c.dis.all (fun d => inB d c.cen)
theorem VB4.b1 {c : CF} (h : VB4 c) : (decide (1 ≤ c.cen) && decide (c.cen ≤ 9)) = true := by obtain ⟨h1, h2, _⟩ := h; simp [h1, h2]
theorem VB4.b2 {c : CF} (h : VB4 c) : (decide (1 ≤ c.dis.length) && decide (c.dis.length ≤ 4096)) = true := by
  obtain ⟨_, _, h1, h2⟩ := h
  rw [decide_eq_true (show 1 ≤ c.dis.length by omega), decide_eq_true (show c.dis.length ≤ 4096 by omega)]; rfl
theorem vnum1 {c : CF} (h : ¬ 1 ≤ c.cen ∨ ¬ c.cen ≤ 9) : 1 = vnum c := by
  rw [vnum, if_pos (by rcases h with h | h <;> simp [h])]
theorem vnum2 {c : CF} (h1 : 1 ≤ c.cen) (h2 : c.cen ≤ 9) (h : ¬ 1 ≤ (c.dis.length : Int) ∨ ¬ (c.dis.length : Int) ≤ 4096) : 2 = vnum c := by
  rw [vnum, if_neg (by simp [h1, h2]), if_pos]
  rcases h with h | h
  · rw [decide_eq_false (show ¬ 1 ≤ c.dis.length by omega)]; rfl
  · rw [decide_eq_false (show ¬ c.dis.length ≤ 4096 by omega), Bool.and_false]
theorem vnum3 {c : CF} (h : VB4 c) (h3 : disB c = false) : 3 = vnum c := by
  rw [disB] at h3
  rw [vnum, if_neg (by rw [h.b1]; simp), if_neg (by rw [h.b2]; simp), if_pos h3]
theorem vnum4 {c : CF} (h : VB4 c) (h3 : disB c = true) (h4 : edgesB c = false) : 4 = vnum c := by
  rw [disB] at h3
  rw [vnum, if_neg (by rw [h.b1]; simp), if_neg (by rw [h.b2]; simp), if_neg (by rw [h3]; simp), if_pos h4]
theorem vnum5 {c : CF} (h : VB4 c) (h3 : disB c = true) (h4 : edgesB c = true) (h5 : unitsB c = false) : 5 = vnum c := by
  rw [disB] at h3
  rw [vnum, if_neg (by rw [h.b1]; simp), if_neg (by rw [h.b2]; simp), if_neg (by rw [h3]; simp), if_neg (by rw [h4]; simp), if_pos h5]
theorem vnum6 {c : CF} (h : VB4 c) (h3 : disB c = true) (h4 : edgesB c = true) (h5 : unitsB c = true) (h6 : plansB c.pla = false) : 6 = vnum c := by
  rw [disB] at h3
  rw [vnum, if_neg (by rw [h.b1]; simp), if_neg (by rw [h.b2]; simp), if_neg (by rw [h3]; simp), if_neg (by rw [h4]; simp), if_neg (by rw [h5]; simp), if_pos h6]
theorem vnum7 {c : CF} (h : VB4 c) (h3 : disB c = true) (h4 : edgesB c = true) (h5 : unitsB c = true) (h6 : plansB c.pla = true) (h7 : parB c = false) : 7 = vnum c := by
  rw [disB] at h3
  rw [vnum, if_neg (by rw [h.b1]; simp), if_neg (by rw [h.b2]; simp), if_neg (by rw [h3]; simp), if_neg (by rw [h4]; simp), if_neg (by rw [h5]; simp), if_neg (by rw [h6]; simp), if_pos h7]
theorem vnum0 {c : CF} (h : VB4 c) (h3 : disB c = true) (h4 : edgesB c = true) (h5 : unitsB c = true) (h6 : plansB c.pla = true) (h7 : parB c = true) : 0 = vnum c := by
  rw [disB] at h3
  rw [vnum, if_neg (by rw [h.b1]; simp), if_neg (by rw [h.b2]; simp), if_neg (by rw [h3]; simp), if_neg (by rw [h4]; simp), if_neg (by rw [h5]; simp), if_neg (by rw [h6]; simp), if_neg (by rw [h7]; simp)]

/-! ## Validate -/
end
end Go.Proofs.YtnejacmmbfeneaaDoor

import Derived.Test.YtnejacmmbfeneaaDoorScP
namespace Go.Proofs.YtnejacmmbfeneaaDoor
open Go.RowKit

/-! ## Plain: the configuration is right -/
theorem wts_sum : wsum wts = 10 := by decide
theorem pick_in (s : Int) : 0 ≤ pick wts s ∧ pick wts s ≤ 3 := by
  have h := roll_in 10 s (by omega)
  unfold pick
  rw [wts_sum, if_neg (by omega)]
  generalize roll 10 s = x at h
  simp only [wts, idx, cw]
  split <;> (try split) <;> (try split) <;> (try split) <;> omega
theorem unitF_ok {n c : Nat} (hc : 1 ≤ c) (hn : c ≤ n) (s : Int) (k : Nat) : unitB c n (unitF n c s k) = true := by
  have hp := pick_in s
  have hm := Nat.mod_lt k (show 0 < c by omega)
  have hl := pl_pos hc hn hm
  have hr := roll_in (plL n c (k % c) n).length (pickA wts s) (by omega)
  have hx : (roll (plL n c (k % c) n).length (pickA wts s)).toNat < (plL n c (k % c) n).length := by omega
  obtain ⟨i, h1, _, h3⟩ := pl_mem (List.getElem_mem hx)
  have e : (unitF n c s k).c = (i : Int) := by
    show ((plL n c (k % c) n)[(roll (plL n c (k % c) n).length (pickA wts s)).toNat]?).getD 0 = _
    rw [List.getElem?_eq_getElem hx]; exact h3
  unfold unitB kindB inB
  rw [e]
  show (decide (1 ≤ 1 + pick wts s) && decide (1 + pick wts s ≤ 4) && (decide (0 ≤ ((k % c : Nat) : Int)) && decide (((k % c : Nat) : Int) < c)) && (decide (0 ≤ (i : Int)) && decide ((i : Int) < n))) = true
  rw [decide_eq_true (by omega), decide_eq_true (by omega), decide_eq_true (Int.natCast_nonneg _), decide_eq_true (Int.ofNat_lt.2 hm), decide_eq_true (by omega), decide_eq_true (by omega)]; rfl
theorem unitS_ok {n c : Nat} (hc : 1 ≤ c) (hn : c ≤ n) (s : Int) : ∀ k, (unitS n c s k).2.all (unitB c n) = true ∧ (unitS n c s k).2.length = k
  | 0 => ⟨rfl, rfl⟩
  | k + 1 => by
    obtain ⟨h1, h2⟩ := unitS_ok hc hn s k
    simp only [unitS]
    exact ⟨by rw [List.all_append, h1, List.all_cons, unitF_ok hc hn]; rfl, by rw [List.length_append, h2]; rfl⟩
theorem edgeB_of {n : Nat} {e : E3} (h : EdOk n e) : edgeB n e = true := by
  obtain ⟨⟨a, b⟩, ⟨c, d⟩, f, g⟩ := h
  unfold edgeB inB
  rw [decide_eq_true a, decide_eq_true b, decide_eq_true c, decide_eq_true d, decide_eq_true f, decide_eq_true (show e.c ≤ 1048576 by omega)]; rfl
theorem town_right (c : CF) (n k u : Nat) (s : Int) (hk : 1 ≤ k) (hk9 : k ≤ 9) (hn : k ≤ n) (h64 : n ≤ 64) (hu : u ≤ 256) (hc : c.cen = k) (hd : c.dis = disL n k) (he : c.edg = (edgS n s).2) (hU : c.uni = town n k u s)
    (hP : plansB c.pla = true) (hpar : parB c = true) : vnum c = 0 := by
  have hlen : c.dis.length = n := by rw [hd, disL_len]
  have hEd := edg_ok (show 1 ≤ n by omega) s
  have hUn := unitS_ok hk hn (edgS n s).1 u
  refine (vnum0 ⟨by omega, by omega, by omega, by omega⟩ ?_ ?_ ?_ hP hpar).symm
  · unfold disB
    rw [hd, List.all_eq_true]
    intro x hx
    obtain ⟨i, hi, rfl⟩ := List.mem_map.1 hx
    have := disN_lt (c := k) (List.mem_range.1 hi)
    unfold inB
    rw [hc, decide_eq_true (Int.natCast_nonneg _), decide_eq_true (by omega)]; rfl
  · refine edgesB_ok ?_ (by rw [he]; omega)
    rw [hlen, he, List.all_eq_true]
    exact fun e h => edgeB_of (hEd.1 e h)
  · refine unitsB_ok ?_ (by rw [hU]; unfold town; rw [hUn.2]; omega)
    rw [hlen, hc, hU]
    exact hUn.1
end Go.Proofs.YtnejacmmbfeneaaDoor

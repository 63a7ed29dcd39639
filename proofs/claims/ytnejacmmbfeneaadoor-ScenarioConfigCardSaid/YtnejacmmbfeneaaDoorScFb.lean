import Derived.Test.YtnejacmmbfeneaaDoorScEb
import Derived.Test.YtnejacmmbfeneaaDoorScF
import Derived.Test.YtnejacmmbfeneaaDoorScS
namespace Go.Proofs.YtnejacmmbfeneaaDoor
open Go.RowKit

set_option maxRecDepth 100000 in
set_option maxHeartbeats 4000000 in
theorem random_bad (w : World) (n c u s : Int) (h : ¬ okN n c u) :
    Calls Tryd.prog 4 #[.int .i64 n, .int .i64 c, .int .i64 u, .int .u64 s] w (TownPost w n c u s) := by
  have hz := Blk.made w 30 z15.toArray
  have HK := hid ((Keep.refl (fun _ => False) w).alloc (.cells z15.toArray 30))
  have HN := hid h
  have hc : c < 1 ∨ (1 ≤ c ∧ 9 < c) ∨ (1 ≤ c ∧ c ≤ 9 ∧ n < c) ∨ (1 ≤ c ∧ c ≤ 9 ∧ c ≤ n ∧ 64 < n) ∨ (1 ≤ c ∧ c ≤ 9 ∧ c ≤ n ∧ n ≤ 64 ∧ u < 0) ∨ (1 ≤ c ∧ c ≤ 9 ∧ c ≤ n ∧ n ≤ 64 ∧ 0 ≤ u ∧ 256 < u) := by
    unfold okN at h; omega
  clear h
  simp only [z15] at hz HK
  go_enter Tryd.func4, Tryd.ntmps4
  go_upto_region 1 with fail
  generalize (w.alloc (.cells #[.int .i64 0, .slice none 0 0, .slice none 0 0, .slice none 0 0, .slice none 0 0, .int .i64 0, .int .i64 0, .int .i64 0, .int .i64 0, .int .i64 0, .int .i64 0, .int .i64 0, .int .i64 0, .int .i64 0, .int .i64 0] 30)) = w1 at *
  have HZ := hid hz
  clear hz
  go_cut [46] from 24 to 45 (fun v w' => v = .bool true ∧ w' = w1)
  case first =>
    rcases hc with h0 | ⟨h0, h1⟩ | ⟨h0, h1, h2⟩ | ⟨h0, h1, h2, h3⟩ | ⟨h0, h1, h2, h3, h4⟩ | ⟨h0, h1, h2, h3, h4, h5⟩
    all_goals
      go_wp2_with fail
      go_meet
      case rel => exact ⟨congrArg Value.bool (by simp <;> omega), rfl⟩
  case rest =>
    obtain ⟨rfl, rfl⟩ := hcut
    clear hc
    go_wp2_with (refine wpList_store_row rfl _ (.tmp 8) (.tmp 47) rfl w.heap.size z15.toArray rfl rfl _ _ HZ.out (by kernel_rfl) rfl (one_toArray z15_one) ?_)
    refine bodyPost_ret (results_cell_tmp rfl _ _ _ _ _ _ _ _ rfl rfl (HZ.out.row _) Tryd.underlying30 rfl (by kernel_rfl)) rfl ?_
    exact ⟨fun _ => rfl, fun h => absurd h HN.out, HK.out.trans (Keep.row _ _ _) (fun i hi e => by have e2 : i = w.heap.size := e; omega)⟩

theorem okN_nat {n c u : Int} (h : okN n c u) : ∃ N C U : Nat, n = N ∧ c = C ∧ u = U ∧ 1 ≤ C ∧ C ≤ 9 ∧ C ≤ N ∧ N ≤ 64 ∧ U ≤ 256 := by
  obtain ⟨⟨h1, h2⟩, ⟨h3, h4⟩, h5, h6⟩ := h
  exact ⟨n.toNat, c.toNat, u.toNat, by omega, by omega, by omega, by omega, by omega, by omega, by omega, by omega⟩
theorem town_any (w : World) (n c u s : Int) (s0 : 0 ≤ s) (s1 : s ≤ 18446744073709551615) :
    Calls Tryd.prog 5 #[.int .i64 n, .int .i64 c, .int .i64 u, .int .u64 s] w (TownPost w n c u s) := by
  by_cases h : okN n c u
  · obtain ⟨N, C, U, rfl, rfl, rfl, h1, h2, h3, h4, h5⟩ := okN_nat h
    exact town_ok w N C U s h1 h2 h3 h4 h5 s0 s1
  · exact town_bad w n c u s h
theorem random_any (w : World) (n c u s : Int) (s0 : 0 ≤ s) (s1 : s ≤ 18446744073709551615) :
    Calls Tryd.prog 4 #[.int .i64 n, .int .i64 c, .int .i64 u, .int .u64 s] w (TownPost w n c u s) := by
  by_cases h : okN n c u
  · obtain ⟨N, C, U, rfl, rfl, rfl, h1, h2, h3, h4, h5⟩ := okN_nat h
    exact random_ok w N C U s h1 h2 h3 h4 h5 s0 s1
  · exact random_bad w n c u s h
/-! ## Two such configurations -/
theorem TownIs.alike {c d : CF} {n k u : Nat} {s : Int} (h : TownIs c n k u s) (g : TownIs d n k u s) : Alike c d := by
  obtain ⟨h1, h2, h3, h4, ⟨K1, K2, h5⟩, a0, a1, a2, a3, a4, a5, a6, a7, a8, a9⟩ := h
  obtain ⟨g1, g2, g3, g4, ⟨K3, K4, g5⟩, b0, b1, b2, b3, b4, b5, b6, b7, b8, b9⟩ := g
  refine ⟨h1.trans g1.symm, h2.trans g2.symm, h3.trans g3.symm, h4.trans g4.symm, ?_, ?_⟩
  · rw [h5, g5]; rfl
  · rw [a0, a1, a2, a3, a4, a5, a6, a7, a8, a9, b0, b1, b2, b3, b4, b5, b6, b7, b8, b9]
theorem TownIs.short {c : CF} {n k u : Nat} {s : Int} (h : TownIs c n k u s) (h1 : 1 ≤ k) (h3 : k ≤ n) (h4 : n ≤ 64) (h6 : u ≤ 256) : Short c := by
  obtain ⟨_, e1, e2, e3, ⟨K1, K2, e4⟩, _⟩ := h
  have hE := (edg_ok (show 1 ≤ n by omega) s).2
  have hU : (town n k u s).length = u := (unitS_ok h1 h3 (edgS n s).1 u).2
  refine ⟨by rw [e1, disL_len]; omega, by rw [e2]; omega, by rw [e3, hU]; omega, by rw [e4]; exact (show (2 : Nat) ≤ 100000 by decide), ?_⟩
  rw [e4]
  intro p hp
  simp only [List.mem_cons, List.not_mem_nil, or_false] at hp
  rcases hp with rfl | rfl
  · exact ⟨show (2 : Nat) ≤ 100000 by decide, show (5 : Nat) ≤ 100000 by decide⟩
  · exact ⟨show (2 : Nat) ≤ 100000 by decide, show (4 : Nat) ≤ 100000 by decide⟩
theorem TownIs.right {c : CF} {n k u : Nat} {s : Int} (h : TownIs c n k u s) (h1 : 1 ≤ k) (h2 : k ≤ 9) (h3 : k ≤ n) (h4 : n ≤ 64) (h6 : u ≤ 256) : vnum c = 0 := by
  obtain ⟨g1, g2, g3, g4, ⟨K1, K2, g5⟩, a0, a1, a2, a3, a4, a5, a6, a7, a8, a9⟩ := h
  refine town_right c n k u s h1 h2 h3 h4 h6 g1 g2 g3 g4 (by rw [g5]; exact town_plans) ?_
  unfold parB parsL
  rw [a0, a1, a2, a3, a4, a5, a6, a7, a8, a9]
  decide
theorem TownIs.edges {c : CF} {n k u : Nat} {s : Int} (h : TownIs c n k u s) (h4 : 1 ≤ n) : c.edg.all (edgeB n) = true := by
  rw [h.2.2.1, List.all_eq_true]
  exact fun e he => edgeB_of ((edg_ok h4 s).1 e he)
def zcf : CF := ⟨0, none, 0, [], none, 0, [], none, 0, [], none, 0, [], 0, 0, 0, 0, 0, 0, 0, 0, 0, 0⟩
theorem zcf_cells : zcf.cells = z15 := rfl
theorem zcf_cm (w : World) : CM w zcf := ⟨Sl.nil _ _ _ _, Sl.nil _ _ _ _, Sl.nil _ _ _ _, Sl.nil _ _ _ _, fun _p hp => (List.not_mem_nil hp).elim, Nat.zero_le _, Nat.zero_le _, Nat.zero_le _, Nat.zero_le _, Nat.zero_le _⟩
theorem zcf_alike : Alike zcf zcf := ⟨rfl, rfl, rfl, rfl, rfl, rfl⟩
theorem zcf_short : Short zcf := ⟨Nat.zero_le _, Nat.zero_le _, Nat.zero_le _, Nat.zero_le _, fun _p hp => (List.not_mem_nil hp).elim⟩
end Go.Proofs.YtnejacmmbfeneaaDoor

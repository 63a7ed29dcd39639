import Derived.Test.YtnejacmmbfeneaaDoorScE
namespace Go.Proofs.YtnejacmmbfeneaaDoor
open Go.RowKit

set_option maxRecDepth 100000 in
set_option maxHeartbeats 4000000 in
theorem town_bad (w : World) (n c u s : Int) (h : ¬ okN n c u) :
    Calls Tryd.prog 5 #[.int .i64 n, .int .i64 c, .int .i64 u, .int .u64 s] w (TownPost w n c u s) := by
  have hz := Blk.made w 30 z15.toArray
  have HK := hid ((Keep.refl (fun _ => False) w).alloc (.cells z15.toArray 30))
  have HN := hid h
  have hc : c < 1 ∨ (1 ≤ c ∧ 9 < c) ∨ (1 ≤ c ∧ c ≤ 9 ∧ n < c) ∨ (1 ≤ c ∧ c ≤ 9 ∧ c ≤ n ∧ 64 < n) ∨ (1 ≤ c ∧ c ≤ 9 ∧ c ≤ n ∧ n ≤ 64 ∧ u < 0) ∨ (1 ≤ c ∧ c ≤ 9 ∧ c ≤ n ∧ n ≤ 64 ∧ 0 ≤ u ∧ 256 < u) := by
    unfold okN at h; omega
  clear h
  simp only [z15] at hz HK
  go_enter Tryd.func5, Tryd.ntmps5
  go_upto_region 1 with fail
  generalize (w.alloc (.cells #[.int .i64 0, .slice none 0 0, .slice none 0 0, .slice none 0 0, .slice none 0 0, .int .i64 0, .int .i64 0, .int .i64 0, .int .i64 0, .int .i64 0, .int .i64 0, .int .i64 0, .int .i64 0, .int .i64 0, .int .i64 0] 30)) = w1 at *
  have HZ := hid hz
  clear hz
  go_cut [48] from 26 to 47 (fun v w' => v = .bool true ∧ w' = w1)
  case first =>
    rcases hc with h0 | ⟨h0, h1⟩ | ⟨h0, h1, h2⟩ | ⟨h0, h1, h2, h3⟩ | ⟨h0, h1, h2, h3, h4⟩ | ⟨h0, h1, h2, h3, h4, h5⟩
    all_goals
      go_wp2_with fail
      go_meet
      case rel => exact ⟨congrArg Value.bool (by simp <;> omega), rfl⟩
  case rest =>
    obtain ⟨rfl, rfl⟩ := hcut
    clear hc
    go_wp2_with (refine wpList_store_row rfl _ (.tmp 8) (.tmp 49) rfl w.heap.size z15.toArray rfl rfl _ _ HZ.out (by kernel_rfl) rfl (one_toArray z15_one) ?_)
    refine bodyPost_ret (results_cell_tmp rfl _ _ _ _ _ _ _ _ rfl rfl (HZ.out.row _) Tryd.underlying30 rfl (by kernel_rfl)) rfl ?_
    exact ⟨fun _ => rfl, fun h => absurd h HN.out, HK.out.trans (Keep.row _ _ _) (fun i hi e => by have e2 : i = w.heap.size := e; omega)⟩
end Go.Proofs.YtnejacmmbfeneaaDoor

import Derived.Test.YtffodheoamlhjaaNew
namespace Go.Proofs.Ytffodheoamlhjaa
open Go.RowKit

/-- the table behind the first release -/
def relT (x : Int) : List St := ([0, 1, 2].map (mkSt 10)).set x.toNat ⟨x, 1, 10, true⟩
theorem rel_val (x : Int) (h : 0 ≤ x) (h' : x < 3) : relR ([0, 1, 2].map (mkSt 10)) x x 1 4 = (relT x, 0) := by
  obtain rfl | rfl | rfl : x = 0 ∨ x = 1 ∨ x = 2 := by omega
  all_goals kernel_rfl
theorem rel_val2 (x : Int) (h : 0 ≤ x) (h' : x < 3) : relR (relT x) x x 1 5 = (relT x, 8) := by
  obtain rfl | rfl | rfl : x = 0 ∨ x = 1 ∨ x = 2 := by omega
  all_goals kernel_rfl
theorem ren_val (x : Int) (h : 0 ≤ x) (h' : x < 3) : renR (relT x) x x 1 5 10 = (relT x, 8) := by
  obtain rfl | rfl | rfl : x = 0 ∨ x = 1 ∨ x = 2 := by omega
  all_goals kernel_rfl
/-- the answer of the last Acquire -/
def lastN (now len : Int) : Int := if vN now = true ∧ vL len = true ∧ 10 < now then 2 else 0
def lastE (now len : Int) : Int := if vN now = true ∧ vL len = true then (if 10 < now then 0 else 10) else 1
theorem acq_val (x : Int) (h : 0 ≤ x) (h' : x < 3) (now len : Int) : (acqR (relT x) x 7 1 now len).2.1 = lastN now len ∧ (acqR (relT x) x 7 1 now len).2.2 = lastE now len := by
  have hw : wrap64 2 = 2 := by kernel_rfl
  obtain rfl | rfl | rfl : x = 0 ∨ x = 1 ∨ x = 2 := by omega
  all_goals
    by_cases hn : 10 < now
    · have hn' : ¬ now ≤ 10 := by omega
      cases h1 : vN now <;> cases h2 : vL len <;> simp [acqR, lastN, lastE, h1, h2, hn, hn', hw, show vH 7 = true from rfl, relT, mkSt]
    · have hn' : now ≤ 10 := by omega
      cases h1 : vN now <;> cases h2 : vL len <;> simp [acqR, lastN, lastE, h1, h2, hn, hn', show vH 7 = true from rfl, relT, mkSt]

set_option maxHeartbeats 1000000 in
theorem leaseRelease_walk (w : World) (t : Int) (h0 : 0 ≤ t) (h255 : t ≤ 255) (now len : Int) :
    Calls Try.prog 5 #[.int .u8 t, .int .i64 now, .int .i64 len] w fun e w' => e = .returned (.bool true) ∧ Same w w' := by
  have hn := new_any (w.alloc (.cells #[.int .i64 0, .int .i64 1, .int .i64 2] 3)) (some ⟨w.heap.size, 0, none⟩) 3 3 [0, 1, 2] 10 (fun _ => False) (Sl.of_blk (Blk.made w 3 #[.int .i64 0, .int .i64 1, .int .i64 2]) rfl (fun f => f)) (by omega) (by omega) rfl
  have K0 : Same w (w.alloc (.cells #[.int .i64 0, .int .i64 1, .int .i64 2] 3)) := (Keep.refl _ _).alloc _
  have hx0 : 0 ≤ t % 3 := by omega
  have hx3 : t % 3 < 3 := by omega
  go_enter Try.func5, Try.ntmps5
  go_wp2_with fail
  refine hn.mono ?_
  rintro e w1 (⟨_, tb, sb, rfl, hb1, hb2, hT, hk⟩ | ⟨h, _⟩)
  · have K1 := K0.then hk
    have hlt : w.heap.size ≤ sb := Nat.le_trans K0.size hb2
    have h2 := rel_any w1 tb sb _ hT (t % 3) (t % 3) 1 4
    rw [rel_val _ hx0 hx3] at h2
    go_wp2_with fail
    refine h2.mono ?_
    rintro e w2 ⟨rfl, hT2, hk2⟩
    have h3 := rel_any w2 tb sb _ hT2 (t % 3) (t % 3) 1 5
    rw [rel_val2 _ hx0 hx3] at h3
    go_wp2_with fail
    refine h3.mono ?_
    rintro e w3 ⟨rfl, hT3, hk3⟩
    have h4 := ren_any w3 tb sb _ hT3 (t % 3) (t % 3) 1 5 10
    rw [ren_val _ hx0 hx3] at h4
    go_wp2_with fail
    refine h4.mono ?_
    rintro e w4 ⟨rfl, hT4, hk4⟩
    have h5 := acq_any w4 tb sb _ hT4 (t % 3) 7 1 now len
    rw [(acq_val _ hx0 hx3 now len).1, (acq_val _ hx0 hx3 now len).2] at h5
    go_wp2_with fail
    refine h5.mono ?_
    rintro e w5 ⟨rfl, _, hk5⟩
    have hS : ∀ i, i < w.heap.size → i = sb → False := by intro i hi he; omega
    have K5 : Same w w5 := (((K1.trans hk2 hS).trans hk3 hS).trans hk4 hS).trans hk5 hS
    have hc : (now < 0 ∧ lastN now len = 0 ∧ lastE now len = 1) ∨ (0 ≤ now ∧ 1099511627776 < now ∧ lastN now len = 0 ∧ lastE now len = 1) ∨
      (0 ≤ now ∧ now ≤ 1099511627776 ∧ len < 1 ∧ lastN now len = 0 ∧ lastE now len = 1) ∨ (0 ≤ now ∧ now ≤ 1099511627776 ∧ 1 ≤ len ∧ 1048576 < len ∧ lastN now len = 0 ∧ lastE now len = 1) ∨
      (0 ≤ now ∧ now ≤ 10 ∧ 1 ≤ len ∧ len ≤ 1048576 ∧ lastN now len = 0 ∧ lastE now len = 10) ∨ (10 < now ∧ now ≤ 1099511627776 ∧ 1 ≤ len ∧ len ≤ 1048576 ∧ lastN now len = 2 ∧ lastE now len = 0) := by
      simp only [lastN, lastE, vN, vL, Bool.and_eq_true, decide_eq_true_eq]
      split <;> split <;> (try split) <;> omega
    generalize lastN now len = N at *
    generalize lastE now len = E at *
    clear h5 h4 h3 h2 hn hT4 hT3 hT2 hT hk5 hk4 hk3 hk2 hk K1 K0 hb1 hb2 hS
    rcases hc with ⟨a1, rfl, rfl⟩ | ⟨a1, a2, rfl, rfl⟩ | ⟨a1, a2, a3, rfl, rfl⟩ | ⟨a1, a2, a3, a4, rfl, rfl⟩ | ⟨a1, a2, a3, a4, rfl, rfl⟩ | ⟨a1, a2, a3, a4, rfl, rfl⟩
    all_goals
      go_wp2_with (go_at_call 11; refine (awake_any _).mono ?_; rintro e w' ⟨rfl, hk⟩)
    all_goals
      go_ret
      exact ⟨rfl, K5.then hk⟩
  · exact absurd h (by decide)
end Go.Proofs.Ytffodheoamlhjaa

import Derived.Test.YtmkcphhgimlkgaaDlS
namespace Go.Proofs.Ytmkcphhgimlkgaa
open Go.RowKit

/-! ## The reference's proposals -/
def susI (S : List Int) (ce k : Int) : Bool := S.any (fun s => s == k) && !(k == ce)
theorem susI_nat (S : List Int) (ce : Int) (k : Nat) : susI S ce k = susB S ce k := rfl
set_option maxHeartbeats 4000000 in
theorem susp_any (w : World) (Av : Nat → Prop) (Q : Option Addr) (cq : Nat) (S : List Int) (hS : Sl w Av 1 Q S.length (icellsC S)) (hn : S.length ≤ 1000) (k ce : Int) :
    Calls Try.prog 38 #[.slice Q S.length cq, .int .i64 k, .int .i64 ce] w fun e w' => e = .returned (.bool (susI S ce k)) ∧ w = w' := by
  have HS := hid hS
  have HD := hid (show ∀ b, S.any (fun s => s == k) = b → susI S ce k = (b && !(k == ce)) from fun b h => by rw [susI, h])
  generalize susI S ce k = R at *
  clear hS
  by_cases hkc : k = ce
  · have g1 : (k != ce) = false := by simp [hkc]
    have HR := hid (show R = false from by rw [HD.out _ rfl]; simp [hkc])
    clear hkc
    go_enter Try.func38, Try.ntmps38
    go_wp2_with fail
    go_loop [11] (fun i => ∃ j : Nat, j ≤ S.length ∧ i = .int .i64 j) (fun i => S.length - (intOf i).toNat)
    case atStart => exact ⟨0, by omega, rfl⟩
    case round =>
      obtain ⟨j, hj, rfl⟩ := hrel
      by_cases hlt : j < S.length
      · obtain ⟨s, hs⟩ := get_some hlt
        obtain ⟨b, off, rfl, _, q⟩ := ints_at HS.out hs
        have hj1 : (j : Int) < (S.length : Int) := by omega
        clear hs
        by_cases g2 : (s == k) = true
        · go_wp2_with fail
          go_round
          case rel => exact ⟨j + 1, by omega, by go_num⟩
          case measure => simp [intOf]; omega
        · have g2 : (s == k) = false := by simpa using g2
          go_wp2_with fail
          go_round
          case rel => exact ⟨j + 1, by omega, by go_num⟩
          case measure => simp [intOf]; omega
      · have hj1 : (S.length : Int) ≤ (j : Int) := by omega
        go_wp2_with fail
        go_ret
        exact ⟨by rw [HR.out]; rfl, rfl⟩
  · have g1 : (k != ce) = true := by simp [hkc]
    have HR := hid (fun b (h : S.any (fun s => s == k) = b) => (show R = b from by rw [HD.out _ h]; simp [hkc]))
    clear hkc
    go_enter Try.func38, Try.ntmps38
    go_wp2_with fail
    go_loop [11] (fun i => ∃ j : Nat, j ≤ S.length ∧ i = .int .i64 j ∧ Hid ((S.take j).any (fun s => s == k) = false)) (fun i => S.length - (intOf i).toNat)
    case atStart => exact ⟨0, by omega, rfl, hid (by simp)⟩
    case round =>
      obtain ⟨j, hj, rfl, HN⟩ := hrel
      by_cases hlt : j < S.length
      · obtain ⟨s, hs⟩ := get_some hlt
        obtain ⟨b, off, rfl, _, q⟩ := ints_at HS.out hs
        have hj1 : (j : Int) < (S.length : Int) := by omega
        have HM := hid (List.mem_of_getElem? hs)
        have HT := hid (take_snoc hs)
        clear hs
        by_cases g2 : (s == k) = true
        · have HY := hid (HR.out true (by rw [List.any_eq_true]; exact ⟨s, HM.out, g2⟩))
          go_wp2_with fail
          go_ret
          exact ⟨by rw [HY.out]; rfl, rfl⟩
        · have g2 : (s == k) = false := by simpa using g2
          have HN2 := hid (show (S.take (j + 1)).any (fun s => s == k) = false from by rw [HT.out, List.any_append, HN.out]; simp [g2])
          go_wp2_with fail
          go_round
          case rel => exact ⟨j + 1, by omega, by go_num, HN2⟩
          case measure => simp [intOf]; omega
      · obtain rfl : j = S.length := by omega
        have HY := hid (HR.out false (by have := HN.out; rwa [List.take_of_length_le (Nat.le_refl _)] at this))
        go_wp2_with fail
        go_ret
        exact ⟨by rw [HY.out]; rfl, rfl⟩
set_option maxRecDepth 100000 in
set_option maxHeartbeats 4000000 in
theorem next_any (w : World) (Av : Nat → Prop) (c : CF) (X : Option Addr) (m cx : Nat) (N : Nat) (hN : c.cen = (N : Int)) (h1 : 1 ≤ N) (h9 : N ≤ 9) (Q : Option Addr) (cq : Nat) (S : List Int) (hS : Sl w Av 1 Q S.length (icellsC S)) (hn : S.length ≤ 1000) (ce : Int) (hce : 0 ≤ ce) (d : Nat) (hd : d < N) :
    Calls Try.prog 37 #[.agg (map16 c X m cx).toArray, .int .i64 ce, .int .i64 d, .slice Q S.length cq] w fun e w' => e = .returned (.bool (decide (ce = succK (susB S ce) N d))) ∧ Same w w' := by
  have hb := Blk.made w 36 (map16 c X m cx).toArray
  have hw : Same w (w.alloc (.cells (map16 c X m cx).toArray 36)) := (Keep.refl _ _).alloc _
  generalize hw1 : w.alloc (.cells (map16 c X m cx).toArray 36) = w1 at *
  have t0 : w1.cell? ⟨w.heap.size, 0, none⟩ = some (.int .i64 c.cen) := hb.at_ 0
  rw [hN] at t0
  have HSU := hid (fun k => susp_any w1 Av Q cq S (hS.same hw) hn k ce)
  have HF := hid (fun k => firstK_some (p := susB S ce) (n := N) (d := d) (k := k))
  have HNO := hid (firstK_none (p := susB S ce) (n := N) (d := d))
  have HSK := hid (show ∀ k, firstK (susB S ce) N d = some k → succK (susB S ce) N d = (((d + k) % N : Nat) : Int) from fun k h => by simp [succK, h])
  have HS0 := hid (show firstK (susB S ce) N d = none → decide (ce = succK (susB S ce) N d) = false from fun h => by simp [succK, h]; omega)
  have HW := hid hw
  clear hb hw hS
  generalize succK (susB S ce) N d = R at *
  go_enter Try.func37, Try.ntmps37
  go_upto_region 1 with fail
  try rw [hw1]
  go_wp2_with fail
  go_loop [9] (fun i => ∃ k : Nat, k ≤ N ∧ i = .int .i64 k ∧ Hid (∀ i, i < k → susB S ce ((d + i) % N) = true)) (fun i => N - (intOf i).toNat)
  case atStart => exact ⟨0, by omega, rfl, hid (fun i hi => by omega)⟩
  case round =>
    obtain ⟨k, hk, rfl, HI⟩ := hrel
    by_cases hlt : k < N
    · have hk1 : (k : Int) < (N : Int) := by omega
      have hrn : (d + k) % N < N := Nat.mod_lt _ (by omega)
      have hmod : (((d : Int) + (k : Int)) % (N : Int)) = (((d + k) % N : Nat) : Int) := by rw [Int.natCast_emod]; simp
      have HSUk := hid (HSU.out (((d + k) % N : Nat) : Int))
      rw [susI_nat] at HSUk
      cases hpk : susB S ce ((d + k) % N)
      · have HY := hid (HSK.out k (HF.out k HI.out hlt hpk))
        rw [hpk] at HSUk
        clear hpk
        generalize (d + k) % N = r at *
        go_wp2_with fail
        (with_reducible refine HSUk.out.mono ?_)
        rintro e w2 ⟨rfl, rfl⟩
        go_wp2_with fail
        go_ret
        refine ⟨ret_of (congrArg Value.bool ?_), HW.out⟩
        rw [HY.out]
        by_cases h : ce = (r : Int)
        · simp [h]
        · have h2 : ¬ (r : Int) = ce := fun e => h e.symm
          simp [h, h2]
      · have HI2 : Hid (∀ i, i < k + 1 → susB S ce ((d + i) % N) = true) := hid (fun i hi => by
          by_cases h : i = k
          · subst h; exact hpk
          · exact HI.out i (by omega))
        rw [hpk] at HSUk
        clear hpk
        generalize (d + k) % N = r at *
        go_wp2_with fail
        (with_reducible refine HSUk.out.mono ?_)
        rintro e w2 ⟨rfl, rfl⟩
        go_wp2_with fail
        go_round
        case rel => exact ⟨k + 1, by omega, by go_num, HI2⟩
        case measure => simp [intOf]; omega
    · obtain rfl : k = N := by omega
      have HY := hid (HS0.out (HNO.out HI.out))
      go_wp2_with fail
      go_ret
      exact ⟨by rw [HY.out]; rfl, HW.out⟩
end Go.Proofs.Ytmkcphhgimlkgaa

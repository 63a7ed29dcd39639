import Derived.Test.YtnejacmmbfeneaaActA
import Derived.Deep.Cut
namespace Go.Proofs.Ytnejacmmbfeneaa
open Go.RowKit Go.PlainAid

section
variable (w : World)
set_option maxRecDepth 100000 in
set_option maxHeartbeats 8000000 in
theorem quiesce_bad (c : CF) (hm : CM w c) (rounds : Int) (_hr : rounds ≤ 20) (hv : ¬ vnum c = 0) : Calls Try.prog 19 #[.agg c.cells.toArray, .int .i64 rounds] w (simPost w []) := by
  have hb0 := Blk.made w 42 c.cells.toArray
  have hw0 := (Keep.refl (fun _ => False) w).alloc (.cells c.cells.toArray 42)
  have HB := hid (fun W (hk : Same (w.alloc (.cells c.cells.toArray 42)) W) => cfc (hb0.keep (S := fun _ => False) hk (fun f => f)))
  have HW := hid hw0
  have HM := hid hm
  have hb1 := cfc hb0
  have hv2 : ((vnum c : Int) != 0) = true := by simpa using hv
  have HV := hid (fun W (hk : Same w W) => validate_any W c (hm.same hk))
  clear hb0 hw0 hm hv
  generalize vnum c = vn at *
  obtain ⟨cen, D, cD, dis, E, cE, edg, U, cU, uni, P, cP, pla, h0, h1, h2, h3, h4, h5, h6, h7, h8, h9⟩ := c
  obtain ⟨c0, c1, c2, c3, c4, c5, c6, c7, c8, c9, c10, c11, c12, c13, c14, hg⟩ := hb1
  simp only [CF.cells] at *
  go_enter Try.func19, Try.ntmps19
  go_wp2_with (go_at_call 29; (with_reducible refine (HV.out _ HW.out).mono ?_); rintro e w2 ⟨rfl, hs2⟩; have HS2 := hid hs2; clear hs2)
  go_ret
  exact ⟨none, 0, rfl, Sl.nil _ _ _ _, HW.out.then HS2.out⟩
set_option maxRecDepth 100000 in
set_option maxHeartbeats 8000000 in
theorem calm_bad (c : CF) (hm : CM w c) (rounds : Int) (_hr : rounds ≤ 20) (hv : ¬ vnum c = 0) : Calls Try.prog 20 #[.agg c.cells.toArray, .int .i64 rounds] w (simPost w []) := by
  have hb0 := Blk.made w 42 c.cells.toArray
  have hw0 := (Keep.refl (fun _ => False) w).alloc (.cells c.cells.toArray 42)
  have HB := hid (fun W (hk : Same (w.alloc (.cells c.cells.toArray 42)) W) => cfc (hb0.keep (S := fun _ => False) hk (fun f => f)))
  have HW := hid hw0
  have HM := hid hm
  have hb1 := cfc hb0
  have hv2 : ((vnum c : Int) != 0) = true := by simpa using hv
  have HV := hid (fun W (hk : Same w W) => right_any W c (hm.same hk))
  clear hb0 hw0 hm hv
  generalize vnum c = vn at *
  obtain ⟨cen, D, cD, dis, E, cE, edg, U, cU, uni, P, cP, pla, h0, h1, h2, h3, h4, h5, h6, h7, h8, h9⟩ := c
  obtain ⟨c0, c1, c2, c3, c4, c5, c6, c7, c8, c9, c10, c11, c12, c13, c14, hg⟩ := hb1
  simp only [CF.cells] at *
  go_enter Try.func20, Try.ntmps20
  go_wp2_with (go_at_call 31; (with_reducible refine (HV.out _ HW.out).mono ?_); rintro e w2 ⟨rfl, hs2⟩; have HS2 := hid hs2; clear hs2)
  go_ret
  exact ⟨none, 0, rfl, Sl.nil _ _ _ _, HW.out.then HS2.out⟩
set_option maxRecDepth 100000 in
set_option maxHeartbeats 8000000 in
theorem quiesce_ok (c : CF) (hm : CM w c) (rounds : Int) (hr : rounds ≤ 20) (hv : vnum c = 0) : Calls Try.prog 19 #[.agg c.cells.toArray, .int .i64 rounds] w (simPost w (cB c.cen.toNat (8 * (placesN c) + 32).toNat rounds.toNat)) := by
  have hb0 := Blk.made w 42 c.cells.toArray
  have hw0 := (Keep.refl (fun _ => False) w).alloc (.cells c.cells.toArray 42)
  have HB := hid (fun W (hk : Same (w.alloc (.cells c.cells.toArray 42)) W) => cfc (hb0.keep (S := fun _ => False) hk (fun f => f)))
  have HW := hid hw0
  have HM := hid hm
  have hb1 := cfc hb0
  obtain ⟨hf, hu⟩ := vnum_ok hv
  have HV := hid (fun W (hk : Same w W) => validate_any W c (hm.same hk))
  have HE := hid (fun W => endpoints_any W c hf.1 hf.2.1 hu)
  have HPN := hid (show placesN c = c.cen + 1 + c.uni.length from rfl)
  have hpb : 1 ≤ placesN c ∧ placesN c ≤ 266 := by have := hf.1; have := hf.2.1; simp only [placesN]; omega
  obtain ⟨hp1, hp2⟩ := hpb
  obtain ⟨hf1, hf2, _, _⟩ := hf
  rw [hv] at HV
  clear hb0 hw0 hm hv
  generalize placesN c = pn at *
  obtain ⟨p, rfl⟩ : ∃ p : Nat, pn = p := ⟨pn.toNat, by omega⟩
  obtain ⟨cen, D, cD, dis, E, cE, edg, U, cU, uni, P, cP, pla, h0, h1, h2, h3, h4, h5, h6, h7, h8, h9⟩ := c
  simp only at hf1 hf2 hu
  obtain ⟨cn, rfl⟩ : ∃ cn : Nat, cen = cn := ⟨cen.toNat, by omega⟩
  obtain ⟨c0, c1, c2, c3, c4, c5, c6, c7, c8, c9, c10, c11, c12, c13, c14, hg⟩ := hb1
  simp only [CF.cells, Int.toNat_natCast] at *
  have hdn : (8 * (p : Int) + 32).toNat = 8 * p + 32 := by omega
  rw [hdn]
  clear hdn
  obtain ⟨R, hR⟩ : ∃ R : Nat, R = rounds.toNat := ⟨_, rfl⟩
  have hmx : max rounds 0 = (R : Int) := by omega
  have hmn : min (R : Int) 1000 = (R : Int) := by omega
  rw [← hR]
  have hR20 : R ≤ 20 := by omega
  clear hR
  go_enter Try.func19, Try.ntmps19
  go_upto_region 5 with (first
    | (go_at_call 29; (with_reducible refine (HV.out _ HW.out).mono ?_); rintro e w2 ⟨rfl, hs2⟩; have HS2 := hid hs2; clear hs2; clear c0 c1 c2 c3 c4 c5 c6 c7 c8 c9 c10 c11 c12 c13 c14 hg; obtain ⟨c0, c1, c2, c3, c4, c5, c6, c7, c8, c9, c10, c11, c12, c13, c14, hg⟩ := HB.out _ HS2.out; simp only at c0 c1 c2 c3 c4 c5 c6 c7 c8 c9 c10 c11 c12 c13 c14)
    | (go_at_call 30; (with_reducible refine (HE.out _).mono ?_); rintro e w3 ⟨rfl, hs3⟩; have HS3 := hid hs3; clear hs3; clear c0 c1 c2 c3 c4 c5 c6 c7 c8 c9 c10 c11 c12 c13 c14 hg; obtain ⟨c0, c1, c2, c3, c4, c5, c6, c7, c8, c9, c10, c11, c12, c13, c14, hg⟩ := HB.out _ (HS2.out.then HS3.out); simp only at c0 c1 c2 c3 c4 c5 c6 c7 c8 c9 c10 c11 c12 c13 c14))
  clear hmx hmn hr
  have HW3 := hid (HW.out.then (HS2.out.then HS3.out))
  obtain ⟨dd, hdd⟩ : ∃ dd : Nat, dd = 8 * p + 32 := ⟨_, rfl⟩
  have hdi : 8 * (p : Int) + 32 = (dd : Int) := by omega
  have HDD := hid hdd
  rw [hdi]
  have hd1 : 32 ≤ dd := by omega
  have hd2 : dd ≤ 2160 := by omega
  clear hdd hdi hp1 hp2 HPN HV HE HM HB HW HS2 HS3
  obtain ⟨q, hq⟩ : ∃ q : Nat, q = R * (1 + dd) := ⟨_, rfl⟩
  have hqb : q ≤ 43220 := by rw [hq]; exact Nat.le_trans (Nat.mul_le_mul hR20 (show 1 + dd ≤ 2161 by omega)) (by omega)
  have hqi : (R : Int) * (1 + (dd : Int)) = (q : Int) := by rw [hq]; simp
  have hcap := EAc.make .i64 .i64 0 (1 + (cn : Int) + (q : Int)) (by omega) (by omega) (by omega) (by omega)
  have hkn : (1 + (cn : Int) + (q : Int)).toNat = 1 + cn + q := by omega
  simp only [hkn] at hcap
  clear hkn
  obtain ⟨mc, hmc⟩ : ∃ mc, madeCells (Value.cells (.agg (sim 0 0).cells.toArray)) ((1 + cn + q) * 8) = mc := ⟨_, rfl⟩
  rw [hmc] at hcap
  have hms : mc.size = (1 + cn + q) * 8 := by rw [← hmc]; simp [size_madeCells]
  have hmk := hcap
  have hcn : cn ≤ 9 := by omega
  clear hcap hq hmc
  have HMS := hid hms
  clear hms
  go_upto_region 6 with fail
  have HO := hid (Own.made0 w3 59 8 (1 + cn + q) mc HMS.out (by unfold maxLen; omega))
  have HK := hid ((Keep.refl (fun _ => False) w3).alloc (.cells mc 59))
  generalize w3.alloc (.cells mc 59) = w5 at *
  clear hmk hqi hqb
  go_wp2_with (
    at_builtin
    refine EAc.law2 (.tmp 27) (.tmp 29) (.slice (some ⟨w3.heap.size, 0, none⟩) 0 (1 + cn + q)) (some ⟨w5.heap.size, 0, none⟩) 1 1 rfl rfl rfl rfl w3.heap.size (0) (accells ([])) (sim 9 0).cells (0 + 1) (accells (cA 0)) rfl (by simp [accells, cA]) (HO.out.keep ((Keep.refl (fun _ => False) w5).alloc _) (fun _ _ _ f => f)) rfl (fun _ => ⟨_, rfl, src_new (w := w5) rfl⟩) (fun u hu => accells_one [sim 9 0] u (by simpa [accells] using hu)) (by omega) (by unfold maxLen; omega) (by have := HK.out.size; simp; omega) ?_
    intro A2 d2 w4 hown hg2 _
    have HO2 := hid hown
    have HK2 := hid ((HK.out.alloc (.cells #[.int .i64 9, .int .i64 0, .int .i64 0, .int .i64 0, .int .i64 0, .int .i64 0, .slice none 0 0, .slice none 0 0] 59)).app (HO.out.keep ((Keep.refl (fun _ => False) w5).alloc (.cells #[.int .i64 9, .int .i64 0, .int .i64 0, .int .i64 0, .int .i64 0, .int .i64 0, .slice none 0 0, .slice none 0 0] 59)) (fun _ _ _ f => f)) hg2 (fun g h1 h2 => by omega))
    clear hown hg2
    have c0b := (HK2.out.cell (p := ⟨w.heap.size, 0, none⟩) hg (fun f => f)).trans c0)
  clear c0 c1 c2 c3 c4 c5 c6 c7 c8 c9 c10 c11 c12 c13 c14 hg c0b
  have HO := HO2
  have HK := HK2
  clear HO2 HK2
  go_loopw [6, 33] (fun v i wr => ∃ (k : Nat) (A : Option Addr) (d : Nat), k ≤ cn ∧ i = .int .i64 k ∧ v = .slice A (k + 1) d ∧ Hid (Own wr w3.heap.size 59 8 (.slice A (k + 1) d) (k + 1) (accells (cA k)) ∧ Same w3 wr)) (fun _ i _ => cn - (RowKit.intOf i).toNat)
  case atStart => exact ⟨0, A2, d2, by omega, rfl, rfl, hid ⟨HO.out, HK.out⟩⟩
  case round =>
    obtain ⟨k, A, d, hk, rfl, rfl, HI⟩ := hrel
    by_cases hlt : k < cn
    · have hk1 : (k : Int) < (cn : Int) := by omega
      have HO := hid HI.out.1
      have HK := hid HI.out.2
      go_wp2_with (
        at_builtin
        refine EAc.law2 (.tmp 36) (.tmp 39) (.slice A (k + 1) d) (some ⟨wr.heap.size, 0, none⟩) 1 1 rfl rfl rfl rfl w3.heap.size (k + 1) (accells (cA k)) (sim 11 (k : Int)).cells (k + 1 + 1) (accells (cA (k + 1))) rfl (by rw [accells_snoc, cA_succ]) (HO.out.keep ((Keep.refl (fun _ => False) wr).alloc _) (fun _ _ _ f => f)) rfl (fun _ => ⟨_, rfl, src_new (w := wr) rfl⟩) (fun u hu => accells_one [sim 11 (k : Int)] u (by simpa [accells] using hu)) (by omega) (by unfold maxLen; omega) (by have := HK.out.size; simp; omega) ?_
        intro A2 d2 w4 hown hg2 _
        have HO3 := hid hown
        have HK2 := hid ((HK.out.alloc (.cells #[.int .i64 11, .int .i64 (k : Int), .int .i64 0, .int .i64 0, .int .i64 0, .int .i64 0, .slice none 0 0, .slice none 0 0] 59)).app (HO.out.keep ((Keep.refl (fun _ => False) wr).alloc (.cells #[.int .i64 11, .int .i64 (k : Int), .int .i64 0, .int .i64 0, .int .i64 0, .int .i64 0, .slice none 0 0, .slice none 0 0] 59)) (fun _ _ _ f => f)) hg2 (fun g h1 h2 => by omega))
        clear hown hg2)
      go_roundw
      case rel => exact ⟨k + 1, A2, d2, by omega, by go_num, rfl, hid ⟨HO3.out, HK2.out⟩⟩
      case measure => simp [RowKit.intOf]; omega
    · obtain rfl : cn = k := by omega
      have HO := hid HI.out.1
      have HK := hid HI.out.2
      clear HI hlt hk
      go_wp2_with fail
      go_loopw [6, 43] (fun v i wr => ∃ (k : Nat) (A : Option Addr) (d m : Nat), k ≤ R ∧ i = .int .i64 k ∧ m ≤ 43300 ∧ v = .slice A m d ∧ Hid (m = cn + 1 + k * (dd + 1)) ∧ Hid (Own wr w3.heap.size 59 8 (.slice A m d) m (accells (cB cn dd k)) ∧ Same w3 wr)) (fun _ i _ => R - (RowKit.intOf i).toNat)
      case atStart => exact ⟨0, A, d, cn + 1, by omega, rfl, by omega, rfl, hid (by omega), hid ⟨by rw [cB_zero]; exact HO.out, HK.out⟩⟩
      case round =>
        obtain ⟨k, A, d, m, hk, rfl, hmb, rfl, HM, HI⟩ := hrel
        by_cases hlt : k < R
        · have hk1 : (k : Int) < (R : Int) := by omega
          have HO := hid HI.out.1
          have HK := hid HI.out.2
          have hmb2 : m ≤ 41080 := by rw [HM.out]; exact Nat.le_trans (Nat.add_le_add_left (Nat.mul_le_mul (show k ≤ 19 by omega) (show dd + 1 ≤ 2161 by omega)) _) (by omega)
          go_wp2_with (
            at_builtin
            refine EAc.law2 (.tmp 45) (.tmp 47) (.slice A m d) (some ⟨wr.heap.size, 0, none⟩) 1 1 rfl rfl rfl rfl w3.heap.size (m) (accells (cB cn dd k)) (sim 4 0).cells (m + 1) (accells (cB cn dd k ++ [sim 4 0])) rfl (accells_snoc _ _) (HO.out.keep ((Keep.refl (fun _ => False) wr).alloc _) (fun _ _ _ f => f)) rfl (fun _ => ⟨_, rfl, src_new (w := wr) rfl⟩) (fun u hu => accells_one [sim 4 0] u (by simpa [accells] using hu)) (by omega) (by unfold maxLen; omega) (by have := HK.out.size; simp; omega) ?_
            intro A2 d2 w4 hown hg2 _
            have HO4 := hid hown
            have HK2 := hid ((HK.out.alloc (.cells #[.int .i64 4, .int .i64 0, .int .i64 0, .int .i64 0, .int .i64 0, .int .i64 0, .slice none 0 0, .slice none 0 0] 59)).app (HO.out.keep ((Keep.refl (fun _ => False) wr).alloc (.cells #[.int .i64 4, .int .i64 0, .int .i64 0, .int .i64 0, .int .i64 0, .int .i64 0, .slice none 0 0, .slice none 0 0] 59)) (fun _ _ _ f => f)) hg2 (fun g h1 h2 => by omega))
            clear hown hg2)
          have HO := HO4
          have HK := HK2
          clear HO4 HK2
          go_loopw [6, 50] (fun v i wr => ∃ (j n : Nat) (A : Option Addr) (d : Nat), j ≤ dd ∧ i = .int .i64 j ∧ n = m + 1 + j ∧ v = .slice A n d ∧ Hid (Own wr w3.heap.size 59 8 (.slice A n d) n (accells (cC cn dd k j)) ∧ Same w3 wr)) (fun _ i _ => dd - (RowKit.intOf i).toNat)
          case atStart => exact ⟨0, m + 1, A2, d2, by omega, rfl, by omega, rfl, hid ⟨by rw [← cC_zero]; exact HO.out, HK.out⟩⟩
          case round =>
            obtain ⟨j, n, A, d, hj, rfl, hn, rfl, HI⟩ := hrel
            by_cases hltj : j < dd
            · have hk1 : (j : Int) < (dd : Int) := by omega
              have HO := hid HI.out.1
              have HK := hid HI.out.2
              have hn3 : n ≤ 50000 := by omega
              have HN := hid hn
              clear hn
              go_wp2_with (
                at_builtin
                refine EAc.law2 (.tmp 52) (.tmp 54) (.slice A n d) (some ⟨wr.heap.size, 0, none⟩) 1 1 rfl rfl rfl rfl w3.heap.size (n) (accells (cC cn dd k j)) (sim 5 0).cells (n + 1) (accells (cC cn dd k (j + 1))) rfl (by rw [accells_snoc, cC_succ]) (HO.out.keep ((Keep.refl (fun _ => False) wr).alloc _) (fun _ _ _ f => f)) rfl (fun _ => ⟨_, rfl, src_new (w := wr) rfl⟩) (fun u hu => accells_one [sim 5 0] u (by simpa [accells] using hu)) (by omega) (by unfold maxLen; omega) (by have := HK.out.size; simp; omega) ?_
                intro A2 d2 w4 hown hg2 _
                have HO5 := hid hown
                have HK2 := hid ((HK.out.alloc (.cells #[.int .i64 5, .int .i64 0, .int .i64 0, .int .i64 0, .int .i64 0, .int .i64 0, .slice none 0 0, .slice none 0 0] 59)).app (HO.out.keep ((Keep.refl (fun _ => False) wr).alloc (.cells #[.int .i64 5, .int .i64 0, .int .i64 0, .int .i64 0, .int .i64 0, .int .i64 0, .slice none 0 0, .slice none 0 0] 59)) (fun _ _ _ f => f)) hg2 (fun g h1 h2 => by omega))
                clear hown hg2)
              go_roundw
              case rel => exact ⟨j + 1, n + 1, A2, d2, by omega, by go_num, by have := HN.out; omega, rfl, hid ⟨HO5.out, HK2.out⟩⟩
              case measure => simp [RowKit.intOf]; omega
            · obtain rfl : dd = j := by omega
              have HN := hid hn
              clear hn
              go_wp2_with fail
              go_roundw
              case rel => exact ⟨k + 1, A, d, n, by omega, by go_num, by have := HN.out; omega, rfl, hid (by rw [HN.out, HM.out, Nat.succ_mul]; omega), hid ⟨by rw [← cC_full]; exact HI.out.1, HI.out.2⟩⟩
              case measure => simp [RowKit.intOf]; omega
        · obtain rfl : R = k := by omega
          go_wp2_with fail
          go_ret
          have hm9 : (cB cn (8 * p + 32) R).length = m := by rw [HM.out, cB_len, HDD.out]
          refine ⟨A, d, ret_of (show Value.slice A m d = _ by rw [hm9]), ?_, HW3.out.then HI.out.2⟩
          rw [hm9, ← HDD.out]
          exact HI.out.1.sl (fun _ _ f => f)
set_option maxRecDepth 100000 in
set_option maxHeartbeats 8000000 in
theorem calm_ok (c : CF) (hm : CM w c) (rounds : Int) (hr : rounds ≤ 20) (hv : vnum c = 0) : Calls Try.prog 20 #[.agg c.cells.toArray, .int .i64 rounds] w (simPost w (cB c.cen.toNat (8 * (placesN c) + 32).toNat rounds.toNat)) := by
  have hb0 := Blk.made w 42 c.cells.toArray
  have hw0 := (Keep.refl (fun _ => False) w).alloc (.cells c.cells.toArray 42)
  have HB := hid (fun W (hk : Same (w.alloc (.cells c.cells.toArray 42)) W) => cfc (hb0.keep (S := fun _ => False) hk (fun f => f)))
  have HW := hid hw0
  have HM := hid hm
  have hb1 := cfc hb0
  obtain ⟨hf, hu⟩ := vnum_ok hv
  have HV := hid (fun W (hk : Same w W) => right_any W c (hm.same hk))
  have HE := hid (fun W => places_any W c hf.1 hf.2.1 hu)
  have HPN := hid (show placesN c = c.cen + 1 + c.uni.length from rfl)
  have hpb : 1 ≤ placesN c ∧ placesN c ≤ 266 := by have := hf.1; have := hf.2.1; simp only [placesN]; omega
  obtain ⟨hp1, hp2⟩ := hpb
  obtain ⟨hf1, hf2, _, _⟩ := hf
  rw [hv] at HV
  clear hb0 hw0 hm hv
  generalize placesN c = pn at *
  obtain ⟨p, rfl⟩ : ∃ p : Nat, pn = p := ⟨pn.toNat, by omega⟩
  obtain ⟨cen, D, cD, dis, E, cE, edg, U, cU, uni, P, cP, pla, h0, h1, h2, h3, h4, h5, h6, h7, h8, h9⟩ := c
  simp only at hf1 hf2 hu
  obtain ⟨cn, rfl⟩ : ∃ cn : Nat, cen = cn := ⟨cen.toNat, by omega⟩
  obtain ⟨c0, c1, c2, c3, c4, c5, c6, c7, c8, c9, c10, c11, c12, c13, c14, hg⟩ := hb1
  simp only [CF.cells, Int.toNat_natCast] at *
  have hdn : (8 * (p : Int) + 32).toNat = 8 * p + 32 := by omega
  rw [hdn]
  clear hdn
  obtain ⟨R, hR⟩ : ∃ R : Nat, R = rounds.toNat := ⟨_, rfl⟩
  rw [← hR]
  have hR20 : R ≤ 20 := by omega
  have HR := hid (show ∀ k : Nat, (k < R ↔ (k : Int) < rounds) from fun k => by omega)
  clear hR hr
  obtain ⟨dd, hdd⟩ : ∃ dd : Nat, dd = 8 * p + 32 := ⟨_, rfl⟩
  have hdi : 8 * (p : Int) + 32 = (dd : Int) := by omega
  have HDD := hid hdd
  have HDI := hid hdi
  have hd1 : 32 ≤ dd := by omega
  have hd2 : dd ≤ 2160 := by omega
  have hcn : cn ≤ 9 := by omega
  clear hdd hdi
  go_enter Try.func20, Try.ntmps20
  go_wp2_with (go_at_call 31; (with_reducible refine (HV.out _ HW.out).mono ?_); rintro e w3 ⟨rfl, hs3⟩; have HS3 := hid hs3; clear hs3)
  have HW3 := hid (HW.out.then HS3.out)
  clear c0 c1 c2 c3 c4 c5 c6 c7 c8 c9 c10 c11 c12 c13 c14 hg HV HM HW
  go_loopw [5, 6] (fun v i wr => ∃ (k : Nat) (A : Option Addr) (d : Nat), k ≤ cn ∧ i = .int .i64 k ∧ v = .slice A (k + 1) d ∧ Hid (Own wr w3.heap.size 59 8 (.slice A (k + 1) d) (k + 1) (accells (cA k)) ∧ Same w3 wr)) (fun _ i _ => cn - (RowKit.intOf i).toNat)
  case atStart => exact ⟨0, _, _, by omega, rfl, rfl, hid ⟨Own.of_blk (Nat.le_refl _) (Blk.made w3 _ _) (Nat.le_refl _) (by unfold maxLen; omega) rfl rfl, (Keep.refl _ _).alloc _⟩⟩
  case round =>
    obtain ⟨k, A, d, hk, rfl, rfl, HI⟩ := hrel
    have HO := hid HI.out.1
    have HK := hid HI.out.2
    obtain ⟨c0, c1, c2, c3, c4, c5, c6, c7, c8, c9, c10, c11, c12, c13, c14, hg⟩ := HB.out _ (HS3.out.then HI.out.2)
    simp only at c0 c1 c2 c3 c4 c5 c6 c7 c8 c9 c10 c11 c12 c13 c14
    by_cases hlt : k < cn
    · have hk1 : (k : Int) < (cn : Int) := by omega
      go_wp2_with (
        at_builtin
        refine EAc.law2 (.tmp 20) (.tmp 23) (.slice A (k + 1) d) (some ⟨wr.heap.size, 0, none⟩) 1 1 rfl rfl rfl rfl w3.heap.size (k + 1) (accells (cA k)) (sim 11 (k : Int)).cells (k + 1 + 1) (accells (cA (k + 1))) rfl (by rw [accells_snoc, cA_succ]) (HO.out.keep ((Keep.refl (fun _ => False) wr).alloc _) (fun _ _ _ f => f)) rfl (fun _ => ⟨_, rfl, src_new (w := wr) rfl⟩) (fun u hu => accells_one [sim 11 (k : Int)] u (by simpa [accells] using hu)) (by omega) (by unfold maxLen; omega) (by have := HK.out.size; simp; omega) ?_
        intro A2 d2 w4 hown hg2 _
        have HO3 := hid hown
        have HK2 := hid ((HK.out.alloc (.cells #[.int .i64 11, .int .i64 (k : Int), .int .i64 0, .int .i64 0, .int .i64 0, .int .i64 0, .slice none 0 0, .slice none 0 0] 59)).app (HO.out.keep ((Keep.refl (fun _ => False) wr).alloc (.cells #[.int .i64 11, .int .i64 (k : Int), .int .i64 0, .int .i64 0, .int .i64 0, .int .i64 0, .slice none 0 0, .slice none 0 0] 59)) (fun _ _ _ f => f)) hg2 (fun g h1 h2 => by omega))
        clear hown hg2)
      go_roundw
      case rel => exact ⟨k + 1, A2, d2, by omega, by go_num, rfl, hid ⟨HO3.out, HK2.out⟩⟩
      case measure => simp [RowKit.intOf]; omega
    · obtain rfl : cn = k := by omega
      clear HI hlt hk
      go_wp2_with fail
      clear c0 c1 c2 c3 c4 c5 c6 c7 c8 c9 c10 c11 c12 c13 c14 hg
      go_loopw [5, 7] (fun v i wr => ∃ (k : Nat) (A : Option Addr) (d m : Nat), k ≤ R ∧ i = .int .i64 k ∧ m ≤ 43300 ∧ v = .slice A m d ∧ Hid (m = cn + 1 + k * (dd + 1)) ∧ Hid (Own wr w3.heap.size 59 8 (.slice A m d) m (accells (cB cn dd k)) ∧ Same w3 wr)) (fun _ i _ => R - (RowKit.intOf i).toNat)
      case atStart => exact ⟨0, A, d, cn + 1, by omega, rfl, by omega, rfl, hid (by omega), hid ⟨by rw [cB_zero]; exact HO.out, HK.out⟩⟩
      case round =>
        obtain ⟨k, A, d, m, hk, rfl, hmb, rfl, HM, HI⟩ := hrel
        by_cases hlt : k < R
        · have hk1 : (k : Int) < rounds := (HR.out k).1 hlt
          have hk2 : (k : Int) < 1000 := by omega
          have HO := hid HI.out.1
          have HK := hid HI.out.2
          have hmb2 : m ≤ 41080 := by rw [HM.out]; exact Nat.le_trans (Nat.add_le_add_left (Nat.mul_le_mul (show k ≤ 19 by omega) (show dd + 1 ≤ 2161 by omega)) _) (by omega)
          go_wp2_with (
            at_builtin
            refine EAc.law2 (.tmp 34) (.tmp 36) (.slice A m d) (some ⟨wr.heap.size, 0, none⟩) 1 1 rfl rfl rfl rfl w3.heap.size (m) (accells (cB cn dd k)) (sim 4 0).cells (m + 1) (accells (cB cn dd k ++ [sim 4 0])) rfl (accells_snoc _ _) (HO.out.keep ((Keep.refl (fun _ => False) wr).alloc _) (fun _ _ _ f => f)) rfl (fun _ => ⟨_, rfl, src_new (w := wr) rfl⟩) (fun u hu => accells_one [sim 4 0] u (by simpa [accells] using hu)) (by omega) (by unfold maxLen; omega) (by have := HK.out.size; simp; omega) ?_
            intro A2 d2 w4 hown hg2 _
            have HO4 := hid hown
            have HK2 := hid ((HK.out.alloc (.cells #[.int .i64 4, .int .i64 0, .int .i64 0, .int .i64 0, .int .i64 0, .int .i64 0, .slice none 0 0, .slice none 0 0] 59)).app (HO.out.keep ((Keep.refl (fun _ => False) wr).alloc (.cells #[.int .i64 4, .int .i64 0, .int .i64 0, .int .i64 0, .int .i64 0, .int .i64 0, .slice none 0 0, .slice none 0 0] 59)) (fun _ _ _ f => f)) hg2 (fun g h1 h2 => by omega))
            clear hown hg2)
          have HO := HO4
          have HK := HK2
          clear HO4 HK2
          go_loopw [5, 8] (fun v i wr => ∃ (j n : Nat) (A : Option Addr) (d : Nat), j ≤ dd ∧ i = .int .i64 j ∧ n = m + 1 + j ∧ v = .slice A n d ∧ Hid (Own wr w3.heap.size 59 8 (.slice A n d) n (accells (cC cn dd k j)) ∧ Same w3 wr)) (fun _ i _ => dd - (RowKit.intOf i).toNat)
          case atStart => exact ⟨0, m + 1, A2, d2, by omega, rfl, by omega, rfl, hid ⟨by rw [← cC_zero]; exact HO.out, HK.out⟩⟩
          case round =>
            obtain ⟨j, n, A, d, hj, rfl, hn, rfl, HI⟩ := hrel
            have HN := hid hn
            have hn3 : n ≤ 50000 := by omega
            clear hn
            obtain ⟨c0, c1, c2, c3, c4, c5, c6, c7, c8, c9, c10, c11, c12, c13, c14, hg⟩ := HB.out _ (HS3.out.then HI.out.2)
            simp only at c0 c1 c2 c3 c4 c5 c6 c7 c8 c9 c10 c11 c12 c13 c14
            by_cases hltj : j < dd
            · have hk1 : (j : Int) < 8 * (p : Int) + 32 := by have := HDI.out; omega
              go_wp2_with fail
              (with_reducible refine (HE.out _).mono ?_)
              rintro e w7 ⟨rfl, hs7⟩
              have HS7 := hid hs7
              have HO := hid (HI.out.1.keep hs7 (fun _ _ _ f => f))
              have HK := hid (HI.out.2.then hs7)
              clear hs7 c0 c1 c2 c3 c4 c5 c6 c7 c8 c9 c10 c11 c12 c13 c14
              go_upto_region 15 with fail
              go_wp2_with (
                at_builtin
                refine EAc.law2 (.tmp 46) (.tmp 48) (.slice A n d) (some ⟨w7.heap.size, 0, none⟩) 1 1 rfl rfl rfl rfl w3.heap.size (n) (accells (cC cn dd k j)) (sim 5 0).cells (n + 1) (accells (cC cn dd k (j + 1))) rfl (by rw [accells_snoc, cC_succ]) (HO.out.keep ((Keep.refl (fun _ => False) w7).alloc _) (fun _ _ _ f => f)) rfl (fun _ => ⟨_, rfl, src_new (w := w7) rfl⟩) (fun u hu => accells_one [sim 5 0] u (by simpa [accells] using hu)) (by omega) (by unfold maxLen; omega) (by have := HK.out.size; simp; omega) ?_
                intro A2 d2 w4 hown hg2 _
                have HO5 := hid hown
                have HK2 := hid ((HK.out.alloc (.cells #[.int .i64 5, .int .i64 0, .int .i64 0, .int .i64 0, .int .i64 0, .int .i64 0, .slice none 0 0, .slice none 0 0] 59)).app (HO.out.keep ((Keep.refl (fun _ => False) w7).alloc (.cells #[.int .i64 5, .int .i64 0, .int .i64 0, .int .i64 0, .int .i64 0, .int .i64 0, .slice none 0 0, .slice none 0 0] 59)) (fun _ _ _ f => f)) hg2 (fun g h1 h2 => by omega))
                clear hown hg2)
              go_roundw
              case rel => exact ⟨j + 1, n + 1, A2, d2, by omega, by go_num, by have := HN.out; omega, rfl, hid ⟨HO5.out, HK2.out⟩⟩
              case measure => simp [RowKit.intOf]; omega
            · obtain rfl : dd = j := by omega
              have hk1 : 8 * (p : Int) + 32 ≤ (dd : Int) := by have := HDI.out; omega
              go_wp2_with fail
              (with_reducible refine (HE.out _).mono ?_)
              rintro e w7 ⟨rfl, hs7⟩
              have HS7 := hid hs7
              have HO := hid (HI.out.1.keep hs7 (fun _ _ _ f => f))
              have HK := hid (HI.out.2.then hs7)
              clear hs7 c0 c1 c2 c3 c4 c5 c6 c7 c8 c9 c10 c11 c12 c13 c14
              go_wp2_with fail
              go_roundw
              case rel => exact ⟨k + 1, A, d, n, by omega, by go_num, by have := HN.out; omega, rfl, hid (by rw [HN.out, HM.out, Nat.succ_mul]; omega), hid ⟨by rw [← cC_full]; exact HO.out, HK.out⟩⟩
              case measure => simp [RowKit.intOf]; omega
        · have hk1 : rounds ≤ (k : Int) := by have := (HR.out k); omega
          obtain rfl : R = k := by omega
          go_wp2_with fail
          go_ret
          have hm9 : (cB cn (8 * p + 32) R).length = m := by rw [HM.out, cB_len, HDD.out]
          refine ⟨A, d, ret_of (show Value.slice A m d = _ by rw [hm9]), ?_, HW3.out.then HI.out.2⟩
          rw [hm9, ← HDD.out]
          exact HI.out.1.sl (fun _ _ f => f)
end
end Go.Proofs.Ytnejacmmbfeneaa

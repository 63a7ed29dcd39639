import Derived.Test.YtnejacmmbfeneaaGenR
namespace Go.Proofs.Ytnejacmmbfeneaa
open Go.RowKit Go.PlainAid

set_option maxRecDepth 100000 in
set_option maxHeartbeats 16000000 in
theorem prefix_walk (w : World) (c : CF) (hm : CM w c) (hf : Few c) (m : RT) (seed many : Int) (hs0 : 0 ≤ seed) (hs1 : seed ≤ 18446744073709551615) (hlo : -9223372036854775808 ≤ many) (_hhi : many ≤ 9223372036854775807) : Calls Try.prog 7 #[.agg c.cells.toArray, .agg m.cells.toArray, .agg #[.int .u64 seed, .int .i64 many]] w fun e w' => e = .returned (.bool true) ∧ Same w w' := by
  have HB := hid (fun W (hk : Same (boxes w c m seed many) W) => bx_and (bx_of hk))
  have HW := hid (boxes_same w c m seed many)
  have HGR := hid (fun W (hk : Same w W) => great_any W c (hm.same hk) hf)
  have HAW := hid awake_any
  have HGEN := hid (fun W (hk : Same w W) n (hn : n ≤ 300) => generate_any W c (hm.same hk) m seed n hs0 hs1 hn)
  have HACT := hid (fun W (hk : Same w W) n (hn : n ≤ 300) (h1 : -9223372036854775808 ≤ n) => acts_any W c (hm.same hk) m seed n hs0 hs1 hn h1)
  have HMO := hid (fun W => mood_any W m)
  have HUQ := hid (fun a b l k h1 h2 => GenL.uniq (c := c) (m := m) (seed := seed) (a := a) (b := b) (l := l) (k := k) h1 h2)
  have HGD := hid (fun a l h => GenL.good (c := c) (m := m) (seed := seed) (a := a) (l := l) h)
  have HBS := hid (show boxes w c m seed many = ((w.alloc (.cells c.cells.toArray 42)).alloc (.cells m.cells.toArray 49)).alloc (.cells #[.int .u64 seed, .int .i64 many] 51) from rfl)
  rw [HBS.out] at HB HW
  clear hm hf HBS
  have hbx := HB.out _ (Keep.refl _ _)
  obtain ⟨cen, D, cD, dis, E, cE, edg, U, cU, uni, P, cP, pla, h0, h1, h2, h3, h4, h5, h6, h7, h8, h9⟩ := c
  obtain ⟨m0, m1, m2, m3, m4, m5, m6⟩ := m
  simp only [CF.cells, RT.cells] at *
  obtain ⟨c0, c1, c2, c3, c4, c5, c6, c7, c8, c9, c10, c11, c12, c13, c14, d0, d1, d2, d3, d4, d5, d6, e0, e1⟩ := hbx
  by_cases hbig : 300 < many
  · go_enter Try.func7, Try.ntmps7
    go_wp2_with fail
    (with_reducible refine (HGR.out _ HW.out).mono ?_)
    rintro e w1 ⟨gb, rfl, hgb, hs1⟩
    have HS1 := hid hs1
    clear hs1 hgb
    clear c0 c1 c2 c3 c4 c5 c6 c7 c8 c9 c10 c11 c12 c13 c14 d0 d1 d2 d3 d4 d5 d6 e0 e1
    obtain ⟨c0, c1, c2, c3, c4, c5, c6, c7, c8, c9, c10, c11, c12, c13, c14, d0, d1, d2, d3, d4, d5, d6, e0, e1⟩ := HB.out _ HS1.out
    cases gb
    · go_wp2_with (go_at_call 9; (with_reducible refine (HAW.out _).mono ?_); rintro e w2 ⟨rfl, hs2⟩; have HS2 := hid hs2; clear hs2)
      go_ret
      exact ⟨rfl, (HW.out.then HS1.out).then HS2.out⟩
    · go_wp2_with (go_at_call 9; (with_reducible refine (HAW.out _).mono ?_); rintro e w2 ⟨rfl, hs2⟩; have HS2 := hid hs2; clear hs2)
      go_ret
      exact ⟨rfl, (HW.out.then HS1.out).then HS2.out⟩
  · by_cases hneg : many < 0
    · go_enter Try.func7, Try.ntmps7
      go_wp2_with fail
      (with_reducible refine (HGR.out _ HW.out).mono ?_)
      rintro e w1 ⟨gb, rfl, hgb, hs1⟩
      have HS1 := hid hs1
      clear hs1 hgb
      clear c0 c1 c2 c3 c4 c5 c6 c7 c8 c9 c10 c11 c12 c13 c14 d0 d1 d2 d3 d4 d5 d6 e0 e1
      obtain ⟨c0, c1, c2, c3, c4, c5, c6, c7, c8, c9, c10, c11, c12, c13, c14, d0, d1, d2, d3, d4, d5, d6, e0, e1⟩ := HB.out _ HS1.out
      cases gb
      · go_wp2_with (go_at_call 9; (with_reducible refine (HAW.out _).mono ?_); rintro e w2 ⟨rfl, hs2⟩; have HS2 := hid hs2; clear hs2)
        go_ret
        exact ⟨rfl, (HW.out.then HS1.out).then HS2.out⟩
      · go_wp2_with (go_at_call 9; (with_reducible refine (HAW.out _).mono ?_); rintro e w2 ⟨rfl, hs2⟩; have HS2 := hid hs2; clear hs2)
        go_ret
        exact ⟨rfl, (HW.out.then HS1.out).then HS2.out⟩
    · have hmn : many ≤ 300 := by omega
      have hm0 : 0 ≤ many := by omega
      have hmq : many / 2 ≤ 300 := by omega
      have HQT := hid (show (many / 2).toNat ≤ many.toNat from by omega)
      go_enter Try.func7, Try.ntmps7
      go_wp2_with fail
      (with_reducible refine (HGR.out _ HW.out).mono ?_)
      rintro e w1 ⟨gb, rfl, hgb, hs1⟩
      have HS1 := hid hs1
      clear hs1 hgb
      clear c0 c1 c2 c3 c4 c5 c6 c7 c8 c9 c10 c11 c12 c13 c14 d0 d1 d2 d3 d4 d5 d6 e0 e1
      obtain ⟨c0, c1, c2, c3, c4, c5, c6, c7, c8, c9, c10, c11, c12, c13, c14, d0, d1, d2, d3, d4, d5, d6, e0, e1⟩ := HB.out _ HS1.out
      cases gb
      rotate_left 1
      · go_wp2_with (go_at_call 9; (with_reducible refine (HAW.out _).mono ?_); rintro e w2 ⟨rfl, hs2⟩; have HS2 := hid hs2; clear hs2)
        go_ret
        exact ⟨rfl, (HW.out.then HS1.out).then HS2.out⟩
      · have HKW1 := hid (HW.out.then HS1.out)
        have HKB1 := hid HS1.out
        go_upto_region 3 with fail
        have HT1 := hid True.intro
        go_region_held3 (fun W => W.cell? ⟨w.heap.size, 0, none⟩ = some (.int .i64 cen) ∧ W.cell? ⟨w.heap.size, 1, none⟩ = some (.slice D dis.length cD) ∧ W.cell? ⟨w.heap.size, 2, none⟩ = some (.slice E edg.length cE) ∧ W.cell? ⟨w.heap.size, 3, none⟩ = some (.slice U uni.length cU) ∧ W.cell? ⟨w.heap.size, 4, none⟩ = some (.slice P pla.length cP) ∧ W.cell? ⟨w.heap.size, 5, none⟩ = some (.int .i64 h0) ∧ W.cell? ⟨w.heap.size, 6, none⟩ = some (.int .i64 h1) ∧ W.cell? ⟨w.heap.size, 7, none⟩ = some (.int .i64 h2) ∧ W.cell? ⟨w.heap.size, 8, none⟩ = some (.int .i64 h3) ∧ W.cell? ⟨w.heap.size, 9, none⟩ = some (.int .i64 h4) ∧ W.cell? ⟨w.heap.size, 10, none⟩ = some (.int .i64 h5) ∧ W.cell? ⟨w.heap.size, 11, none⟩ = some (.int .i64 h6) ∧ W.cell? ⟨w.heap.size, 12, none⟩ = some (.int .i64 h7) ∧ W.cell? ⟨w.heap.size, 13, none⟩ = some (.int .i64 h8) ∧ W.cell? ⟨w.heap.size, 14, none⟩ = some (.int .i64 h9) ∧ W.cell? ⟨w.heap.size + 1, 0, none⟩ = some (.int .i64 m0) ∧ W.cell? ⟨w.heap.size + 1, 1, none⟩ = some (.int .i64 m1) ∧ W.cell? ⟨w.heap.size + 1, 2, none⟩ = some (.int .i64 m2) ∧ W.cell? ⟨w.heap.size + 1, 3, none⟩ = some (.int .i64 m3) ∧ W.cell? ⟨w.heap.size + 1, 4, none⟩ = some (.int .i64 m4) ∧ W.cell? ⟨w.heap.size + 1, 5, none⟩ = some (.int .i64 m5) ∧ W.cell? ⟨w.heap.size + 1, 6, none⟩ = some (.int .i64 m6) ∧ W.cell? ⟨w.heap.size + 2, 0, none⟩ = some (.int .u64 seed) ∧ W.cell? ⟨w.heap.size + 2, 1, none⟩ = some (.int .i64 many))
          (first | with_reducible exact ⟨c0, c1, c2, c3, c4, c5, c6, c7, c8, c9, c10, c11, c12, c13, c14, d0, d1, d2, d3, d4, d5, d6, e0, e1⟩ | with_reducible exact hS2.out | with_reducible exact hS3.out | go_keep)
          (first
            | (
              have tok : True := HT1.out
              go_at_call 21
              (with_reducible refine (HGEN.out _ (by first | with_reducible exact HKW1.out | with_reducible exact HKW1.out.drew) _ hmn).mono ?_)
              rintro e w2 ⟨A2, cp2, la2, rfl, hg2, hl2, ha2, hs9⟩
              have HG2 := hid hg2
              have HA2 := hid ha2
              have HL2 := hid hl2
              clear hg2 ha2 hl2 HT1 tok
              have HK2 : Hid (Same w1 w2) := hid (by first | with_reducible exact hs9 | with_reducible exact (Keep.refl _ _).drew.then hs9)
              have HKW2 := hid (HKW1.out.then HK2.out)
              have HKB2 := hid (HKB1.out.then HK2.out)
              have hS2 := hid (HB.out _ HKB2.out)
              clear hs9)
            | (
              go_at_call 21
              (with_reducible refine (HGEN.out _ (by first | with_reducible exact HKW2.out | with_reducible exact HKW2.out.drew) _ hmn).mono ?_)
              rintro e w3 ⟨A3, cp3, la3, rfl, hg3, hl3, ha3, hs9⟩
              have HG3 := hid hg3
              have HA3 := hid ha3
              have HL3 := hid hl3
              clear hg3 ha3 hl3
              have HK3 : Hid (Same w2 w3) := hid (by first | with_reducible exact hs9 | with_reducible exact (Keep.refl _ _).drew.then hs9)
              have HKW3 := hid (HKW2.out.then HK3.out)
              have HKB3 := hid (HKB2.out.then HK3.out)
              have hS3 := hid (HB.out _ HKB3.out)
              clear hs9))
        clear c0 c1 c2 c3 c4 c5 c6 c7 c8 c9 c10 c11 c12 c13 c14 d0 d1 d2 d3 d4 d5 d6 e0 e1
        obtain ⟨c0, c1, c2, c3, c4, c5, c6, c7, c8, c9, c10, c11, c12, c13, c14, d0, d1, d2, d3, d4, d5, d6, e0, e1⟩ := hS3.out
        go_wp2_with fail
        (with_reducible refine (HGEN.out _ HKW3.out _ hmq).mono ?_)
        rintro e w4 ⟨A4, cp4, la4, rfl, hg4, hl4, ha4, hs9⟩
        have HG4 := hid hg4
        have HA4 := hid ha4
        clear hg4 ha4 hl4
        have HK4 : Hid (Same w3 w4) := hid (by first | with_reducible exact hs9 | with_reducible exact (Keep.refl _ _).drew.then hs9)
        have HKW4 := hid (HKW3.out.then HK4.out)
        have HKB4 := hid (HKB3.out.then HK4.out)
        have hS4 := hid (HB.out _ HKB4.out)
        clear hs9
        have HU := hid (HUQ.out _ _ _ _ HG4.out HG2.out HQT.out)
        have hle : la4.length ≤ la2.length := by have := HU.out.1; simpa using this
        have hcp : la4.length ≤ cp2 := by have := HL2.out.2; omega
        have HTK := hid (by
          have hv : la4.map AC.val = (la2.take la4.length).map AC.val := by
            have := HU.out.2.1
            rwa [List.length_map, ← List.map_take] at this
          have hl : (la2.take la4.length).length = la4.length := by rw [List.length_take]; omega
          have := fun W (hk : Same w4 W) => same_true W A4 A2 cp4 cp2 la4 (la2.take la4.length) (by have := HL2.out.1; omega) hv (HA4.out.same hk) (actm_take (HA2.out.same ((HK3.out.then HK4.out).then hk)) hle)
          simp only [hl] at this
          exact this : ∀ W, Same w4 W → Calls Try.prog 18 #[.slice A4 la4.length cp4, .slice A2 la4.length cp2] W (fun e w' => e = .returned (.bool true) ∧ Same W w'))
        clear c0 c1 c2 c3 c4 c5 c6 c7 c8 c9 c10 c11 c12 c13 c14 d0 d1 d2 d3 d4 d5 d6 e0 e1
        go_wp2_with fail
        (with_reducible refine (same_true _ A2 A3 cp2 cp3 la2 la3 (Nat.le_trans HL2.out.1 (by decide)) ((HUQ.out _ _ _ _ HG2.out HG3.out (Nat.le_refl _)).2.2 rfl) (HA2.out.same (HK3.out.then HK4.out)) (HA3.out.same HK4.out)).mono ?_)
        rintro e w5 ⟨rfl, hs9⟩
        have HK5 : Hid (Same w4 w5) := hid (by first | with_reducible exact hs9 | with_reducible exact (Keep.refl _ _).drew.then hs9)
        have HKW5 := hid (HKW4.out.then HK5.out)
        have HKB5 := hid (HKB4.out.then HK5.out)
        have hS5 := hid (HB.out _ HKB5.out)
        clear hs9
        clear hS5
        go_wp2_with fail
        (with_reducible refine (HTK.out _ HK5.out).mono ?_)
        rintro e w6 ⟨rfl, hs9⟩
        have HK6 : Hid (Same w5 w6) := hid (by first | with_reducible exact hs9 | with_reducible exact (Keep.refl _ _).drew.then hs9)
        have HKW6 := hid (HKW5.out.then HK6.out)
        have HKB6 := hid (HKB5.out.then HK6.out)
        have hS6 := hid (HB.out _ HKB6.out)
        clear hs9
        clear hS6
        go_wp2_with fail
        (with_reducible refine (HAW.out _).mono ?_)
        rintro e w7 ⟨rfl, hs9⟩
        have HS7 := hid hs9
        clear hs9
        go_wp2_with fail
        go_ret
        exact ⟨rfl, HKW6.out.then HS7.out⟩
end Go.Proofs.Ytnejacmmbfeneaa

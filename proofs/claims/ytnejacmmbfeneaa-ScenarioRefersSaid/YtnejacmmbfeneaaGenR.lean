import Derived.Test.YtnejacmmbfeneaaGenQ
import Derived.Test.YtnejacmmbfeneaaActC
import Derived.Test.YtnejacmmbfeneaaActD
namespace Go.Proofs.Ytnejacmmbfeneaa
open Go.RowKit Go.PlainAid

/-! ## The statements on Generate: what they share -/
set_option maxRecDepth 100000 in
theorem mood_any (w : World) (m : RT) : Calls Try.prog 23 #[.agg m.cells.toArray] w fun e w' => e = .returned (.agg m.cells.toArray) ∧ Same w w' := by
  obtain ⟨m0, m1, m2, m3, m4, m5, m6⟩ := m
  simp only [RT.cells]
  go_enter Try.func23, Try.ntmps23
  go_wp2_with fail
  refine bodyPost_ret (v := .agg #[.int .i64 m0, .int .i64 m1, .int .i64 m2, .int .i64 m3, .int .i64 m4, .int .i64 m5, .int .i64 m6]) (by simp [results, Try.results23, go_sem]) rfl ⟨rfl, ?_⟩
  exact ((Keep.refl _ w).alloc _).alloc _
theorem generate_any (w : World) (c : CF) (hm : CM w c) (m : RT) (seed many : Int) (hs0 : 0 ≤ seed) (hs1 : seed ≤ 18446744073709551615) (hmany : many ≤ 300) : Calls Try.prog 21 #[.agg c.cells.toArray, .agg m.cells.toArray, .int .u64 seed, .int .i64 many] w (genPost w c m seed many.toNat) := by
  by_cases hv : vnum c = 0
  · exact generate_ok w c hm m seed many hs0 hs1 hmany hv
  · exact generate_bad w c hm m seed many _ hv
theorem acts_any (w : World) (c : CF) (hm : CM w c) (m : RT) (seed many : Int) (hs0 : 0 ≤ seed) (hs1 : seed ≤ 18446744073709551615) (hmany : many ≤ 300) (hlo : -9223372036854775808 ≤ many) : Calls Try.prog 22 #[.agg c.cells.toArray, .agg m.cells.toArray, .int .u64 seed, .int .i64 many] w (genPost w c m seed many.toNat) := by
  by_cases hv : vnum c = 0
  · exact acts_ok w c hm m seed many hs0 hs1 hmany hlo hv
  · exact acts_bad w c hm m seed many _ hv
/-- the three boxes -/
structure BX (W : World) (g : Nat) (c : CF) (m : RT) (seed many : Int) : Prop where
  c : CFc W g c
  d0 : W.cell? ⟨g + 1, 0, none⟩ = some (.int .i64 m.a0)
  d1 : W.cell? ⟨g + 1, 1, none⟩ = some (.int .i64 m.a1)
  d2 : W.cell? ⟨g + 1, 2, none⟩ = some (.int .i64 m.a2)
  d3 : W.cell? ⟨g + 1, 3, none⟩ = some (.int .i64 m.a3)
  d4 : W.cell? ⟨g + 1, 4, none⟩ = some (.int .i64 m.a4)
  d5 : W.cell? ⟨g + 1, 5, none⟩ = some (.int .i64 m.a5)
  d6 : W.cell? ⟨g + 1, 6, none⟩ = some (.int .i64 m.a6)
  e0 : W.cell? ⟨g + 2, 0, none⟩ = some (.int .u64 seed)
  e1 : W.cell? ⟨g + 2, 1, none⟩ = some (.int .i64 many)
def boxes (w : World) (c : CF) (m : RT) (seed many : Int) : World := ((w.alloc (.cells c.cells.toArray 42)).alloc (.cells m.cells.toArray 49)).alloc (.cells #[.int .u64 seed, .int .i64 many] 51)
theorem boxes_same (w : World) (c : CF) (m : RT) (seed many : Int) : Same w (boxes w c m seed many) := (((Keep.refl _ w).alloc _).alloc _).alloc _
theorem bx_of {w W : World} {c : CF} {m : RT} {seed many : Int} (hk : Same (boxes w c m seed many) W) : BX W w.heap.size c m seed many := by
  have hb : Blk W w.heap.size 42 c.cells.toArray := (((Blk.made w 42 c.cells.toArray).alloc (.cells m.cells.toArray 49)).alloc (.cells #[.int .u64 seed, .int .i64 many] 51)).keep hk (fun f => f)
  have h1 := Blk.made (w.alloc (.cells c.cells.toArray 42)) 49 m.cells.toArray
  have h2 := Blk.made ((w.alloc (.cells c.cells.toArray 42)).alloc (.cells m.cells.toArray 49)) 51 #[.int .u64 seed, .int .i64 many]
  rw [World.size_alloc] at h1
  rw [World.size_alloc, World.size_alloc] at h2
  have h3 := (h1.alloc (.cells #[.int .u64 seed, .int .i64 many] 51)).keep hk (fun f => f)
  have h4 := h2.keep hk (fun f => f)
  exact ⟨cfc hb, h3.at_ 0, h3.at_ 1, h3.at_ 2, h3.at_ 3, h3.at_ 4, h3.at_ 5, h3.at_ 6, h4.at_ 0, h4.at_ 1⟩
theorem bx_and {W : World} {g : Nat} {c : CF} {m : RT} {seed many : Int} (h : BX W g c m seed many) : W.cell? ⟨g, 0, none⟩ = some (.int .i64 c.cen) ∧ W.cell? ⟨g, 1, none⟩ = some (.slice c.D c.dis.length c.cD) ∧ W.cell? ⟨g, 2, none⟩ = some (.slice c.E c.edg.length c.cE) ∧ W.cell? ⟨g, 3, none⟩ = some (.slice c.U c.uni.length c.cU) ∧ W.cell? ⟨g, 4, none⟩ = some (.slice c.P c.pla.length c.cP) ∧ W.cell? ⟨g, 5, none⟩ = some (.int .i64 c.h0) ∧ W.cell? ⟨g, 6, none⟩ = some (.int .i64 c.h1) ∧ W.cell? ⟨g, 7, none⟩ = some (.int .i64 c.h2) ∧ W.cell? ⟨g, 8, none⟩ = some (.int .i64 c.h3) ∧ W.cell? ⟨g, 9, none⟩ = some (.int .i64 c.h4) ∧ W.cell? ⟨g, 10, none⟩ = some (.int .i64 c.h5) ∧ W.cell? ⟨g, 11, none⟩ = some (.int .i64 c.h6) ∧ W.cell? ⟨g, 12, none⟩ = some (.int .i64 c.h7) ∧ W.cell? ⟨g, 13, none⟩ = some (.int .i64 c.h8) ∧ W.cell? ⟨g, 14, none⟩ = some (.int .i64 c.h9) ∧ W.cell? ⟨g + 1, 0, none⟩ = some (.int .i64 m.a0) ∧ W.cell? ⟨g + 1, 1, none⟩ = some (.int .i64 m.a1) ∧ W.cell? ⟨g + 1, 2, none⟩ = some (.int .i64 m.a2) ∧ W.cell? ⟨g + 1, 3, none⟩ = some (.int .i64 m.a3) ∧ W.cell? ⟨g + 1, 4, none⟩ = some (.int .i64 m.a4) ∧ W.cell? ⟨g + 1, 5, none⟩ = some (.int .i64 m.a5) ∧ W.cell? ⟨g + 1, 6, none⟩ = some (.int .i64 m.a6) ∧ W.cell? ⟨g + 2, 0, none⟩ = some (.int .u64 seed) ∧ W.cell? ⟨g + 2, 1, none⟩ = some (.int .i64 many) :=
  ⟨h.c.c0, h.c.c1, h.c.c2, h.c.c3, h.c.c4, h.c.c5, h.c.c6, h.c.c7, h.c.c8, h.c.c9, h.c.c10, h.c.c11, h.c.c12, h.c.c13, h.c.c14, h.d0, h.d1, h.d2, h.d3, h.d4, h.d5, h.d6, h.e0, h.e1⟩
theorem actm_take {w : World} {A : Option Addr} {la : List AC} (h : ActM w A la) {n : Nat} (hn : n ≤ la.length) : ActM w A (la.take n) := by
  have e : (la.take n).length = n := by rw [List.length_take]; omega
  have hs := h.sl.take n hn
  have e2 : accells (la.take n) = (accells la).take (n * 8) := by
    rw [accells, accells, flat_take AC.cells 8 (fun _ => rfl)]
  exact ⟨by rw [e, e2]; exact hs, fun a ha => h.ok a (List.mem_of_mem_take ha)⟩
set_option maxRecDepth 100000 in
set_option maxHeartbeats 16000000 in
theorem generate_walk (w : World) (c : CF) (hm : CM w c) (hf : Few c) (m : RT) (seed many : Int) (hs0 : 0 ≤ seed) (hs1 : seed ≤ 18446744073709551615) (hlo : -9223372036854775808 ≤ many) (_hhi : many ≤ 9223372036854775807) : Calls Try.prog 6 #[.agg c.cells.toArray, .agg m.cells.toArray, .agg #[.int .u64 seed, .int .i64 many]] w fun e w' => e = .returned (.bool true) ∧ Same w w' := by
  have HB := hid (fun W (hk : Same (boxes w c m seed many) W) => bx_and (bx_of hk))
  have HW := hid (boxes_same w c m seed many)
  have HGR := hid (fun W (hk : Same w W) => great_any W c (hm.same hk) hf)
  have HAW := hid awake_any
  have HGEN := hid (fun W (hk : Same w W) n (hn : n ≤ 300) => generate_any W c (hm.same hk) m seed n hs0 hs1 hn)
  have HACT := hid (fun W (hk : Same w W) n (hn : n ≤ 300) (h1 : -9223372036854775808 ≤ n) => acts_any W c (hm.same hk) m seed n hs0 hs1 hn h1)
  have HMO := hid (fun W => mood_any W m)
  have HUQ := hid (fun a b l k h1 h2 => GenL.uniq (c := c) (m := m) (seed := seed) (a := a) (b := b) (l := l) (k := k) h1 h2)
  have HGD := hid (fun a l h => GenL.good (c := c) (m := m) (seed := seed) (a := a) (l := l) h)
  have HBS := hid (show boxes w c m seed many = ((w.alloc (.cells c.cells.toArray 42)).alloc (.cells m.cells.toArray 49)).alloc (.cells #[.int .u64 seed, .int .i64 many] 51) from rfl)
  rw [HBS.out] at HB HW
  clear hm hf HBS
  have hbx := HB.out _ (Keep.refl _ _)
  obtain ⟨cen, D, cD, dis, E, cE, edg, U, cU, uni, P, cP, pla, h0, h1, h2, h3, h4, h5, h6, h7, h8, h9⟩ := c
  obtain ⟨m0, m1, m2, m3, m4, m5, m6⟩ := m
  simp only [CF.cells, RT.cells] at *
  obtain ⟨c0, c1, c2, c3, c4, c5, c6, c7, c8, c9, c10, c11, c12, c13, c14, d0, d1, d2, d3, d4, d5, d6, e0, e1⟩ := hbx
  by_cases hbig : 300 < many
  · go_enter Try.func6, Try.ntmps6
    go_wp2_with fail
    (with_reducible refine (HGR.out _ HW.out).mono ?_)
    rintro e w1 ⟨gb, rfl, hgb, hs1⟩
    have HS1 := hid hs1
    clear hs1 hgb
    clear c0 c1 c2 c3 c4 c5 c6 c7 c8 c9 c10 c11 c12 c13 c14 d0 d1 d2 d3 d4 d5 d6 e0 e1
    obtain ⟨c0, c1, c2, c3, c4, c5, c6, c7, c8, c9, c10, c11, c12, c13, c14, d0, d1, d2, d3, d4, d5, d6, e0, e1⟩ := HB.out _ HS1.out
    cases gb
    · go_wp2_with (go_at_call 9; (with_reducible refine (HAW.out _).mono ?_); rintro e w2 ⟨rfl, hs2⟩; have HS2 := hid hs2; clear hs2)
      go_ret
      exact ⟨rfl, (HW.out.then HS1.out).then HS2.out⟩
    · go_wp2_with (go_at_call 9; (with_reducible refine (HAW.out _).mono ?_); rintro e w2 ⟨rfl, hs2⟩; have HS2 := hid hs2; clear hs2)
      go_ret
      exact ⟨rfl, (HW.out.then HS1.out).then HS2.out⟩
  · have hmn : many ≤ 300 := by omega
    go_enter Try.func6, Try.ntmps6
    go_wp2_with fail
    (with_reducible refine (HGR.out _ HW.out).mono ?_)
    rintro e w1 ⟨gb, rfl, hgb, hs1⟩
    have HS1 := hid hs1
    clear hs1 hgb
    clear c0 c1 c2 c3 c4 c5 c6 c7 c8 c9 c10 c11 c12 c13 c14 d0 d1 d2 d3 d4 d5 d6 e0 e1
    obtain ⟨c0, c1, c2, c3, c4, c5, c6, c7, c8, c9, c10, c11, c12, c13, c14, d0, d1, d2, d3, d4, d5, d6, e0, e1⟩ := HB.out _ HS1.out
    cases gb
    rotate_left 1
    · go_wp2_with (go_at_call 9; (with_reducible refine (HAW.out _).mono ?_); rintro e w2 ⟨rfl, hs2⟩; have HS2 := hid hs2; clear hs2)
      go_ret
      exact ⟨rfl, (HW.out.then HS1.out).then HS2.out⟩
    · have HKW1 := hid (HW.out.then HS1.out)
      have HKB1 := hid HS1.out
      go_upto_region 3 with fail
      go_region_held3 (fun W => W.cell? ⟨w.heap.size, 0, none⟩ = some (.int .i64 cen) ∧ W.cell? ⟨w.heap.size, 1, none⟩ = some (.slice D dis.length cD) ∧ W.cell? ⟨w.heap.size, 2, none⟩ = some (.slice E edg.length cE) ∧ W.cell? ⟨w.heap.size, 3, none⟩ = some (.slice U uni.length cU) ∧ W.cell? ⟨w.heap.size, 4, none⟩ = some (.slice P pla.length cP) ∧ W.cell? ⟨w.heap.size, 5, none⟩ = some (.int .i64 h0) ∧ W.cell? ⟨w.heap.size, 6, none⟩ = some (.int .i64 h1) ∧ W.cell? ⟨w.heap.size, 7, none⟩ = some (.int .i64 h2) ∧ W.cell? ⟨w.heap.size, 8, none⟩ = some (.int .i64 h3) ∧ W.cell? ⟨w.heap.size, 9, none⟩ = some (.int .i64 h4) ∧ W.cell? ⟨w.heap.size, 10, none⟩ = some (.int .i64 h5) ∧ W.cell? ⟨w.heap.size, 11, none⟩ = some (.int .i64 h6) ∧ W.cell? ⟨w.heap.size, 12, none⟩ = some (.int .i64 h7) ∧ W.cell? ⟨w.heap.size, 13, none⟩ = some (.int .i64 h8) ∧ W.cell? ⟨w.heap.size, 14, none⟩ = some (.int .i64 h9) ∧ W.cell? ⟨w.heap.size + 1, 0, none⟩ = some (.int .i64 m0) ∧ W.cell? ⟨w.heap.size + 1, 1, none⟩ = some (.int .i64 m1) ∧ W.cell? ⟨w.heap.size + 1, 2, none⟩ = some (.int .i64 m2) ∧ W.cell? ⟨w.heap.size + 1, 3, none⟩ = some (.int .i64 m3) ∧ W.cell? ⟨w.heap.size + 1, 4, none⟩ = some (.int .i64 m4) ∧ W.cell? ⟨w.heap.size + 1, 5, none⟩ = some (.int .i64 m5) ∧ W.cell? ⟨w.heap.size + 1, 6, none⟩ = some (.int .i64 m6) ∧ W.cell? ⟨w.heap.size + 2, 0, none⟩ = some (.int .u64 seed) ∧ W.cell? ⟨w.heap.size + 2, 1, none⟩ = some (.int .i64 many))
        (first | with_reducible exact ⟨c0, c1, c2, c3, c4, c5, c6, c7, c8, c9, c10, c11, c12, c13, c14, d0, d1, d2, d3, d4, d5, d6, e0, e1⟩ | with_reducible exact hS2.out | with_reducible exact hS3.out | with_reducible exact hS4.out | with_reducible exact hS5.out | with_reducible exact hS6.out | go_keep)
        (first
          | (
            go_at_call 21
            (with_reducible refine (HGEN.out _ (by first | with_reducible exact HKW1.out | with_reducible exact HKW1.out.drew) _ hmn).mono ?_)
            rintro e w2 ⟨A2, cp2, la2, rfl, hg2, hl2, ha2, hs9⟩
            have HG2 := hid hg2
            have HA2 := hid ha2
            have HL2 := hid hl2
            clear hg2 ha2 hl2
            have HK2 : Hid (Same w1 w2) := hid (by first | with_reducible exact hs9 | with_reducible exact (Keep.refl _ _).drew.then hs9)
            have HKW2 := hid (HKW1.out.then HK2.out)
            have HKB2 := hid (HKB1.out.then HK2.out)
            have hS2 := hid (HB.out _ HKB2.out)
            clear hs9)
          | (
            go_at_call 23
            (with_reducible refine (HMO.out _).mono ?_)
            rintro e w3 ⟨rfl, hs9⟩
            have HK3 : Hid (Same w2 w3) := hid (by first | with_reducible exact hs9 | with_reducible exact (Keep.refl _ _).drew.then hs9)
            have HKW3 := hid (HKW2.out.then HK3.out)
            have HKB3 := hid (HKB2.out.then HK3.out)
            have hS3 := hid (HB.out _ HKB3.out)
            clear hs9)
          | (
            go_at_call 22
            (with_reducible refine (HACT.out _ (by first | with_reducible exact HKW3.out | with_reducible exact HKW3.out.drew) _ hmn hlo).mono ?_)
            rintro e w4 ⟨A4, cp4, la4, rfl, hg4, hl4, ha4, hs9⟩
            have HG4 := hid hg4
            have HA4 := hid ha4
            have HL4 := hid hl4
            clear hg4 ha4 hl4
            have HK4 : Hid (Same w3 w4) := hid (by first | with_reducible exact hs9 | with_reducible exact (Keep.refl _ _).drew.then hs9)
            have HKW4 := hid (HKW3.out.then HK4.out)
            have HKB4 := hid (HKB3.out.then HK4.out)
            have hS4 := hid (HB.out _ HKB4.out)
            clear hs9)
          | (
            go_at_call 18
            (with_reducible refine (same_true _ A2 A4 cp2 cp4 la2 la4 (Nat.le_trans HL2.out.1 (by decide)) ((HUQ.out _ _ _ _ HG2.out HG4.out (Nat.le_refl _)).2.2 rfl) (by first | with_reducible exact HA2.out.same (HK3.out.then HK4.out) | with_reducible exact HA2.out.same (HK3.out.then HK4.out).drew) (by first | with_reducible exact HA4.out | with_reducible exact HA4.out.same (Keep.refl _ _).drew)).mono ?_)
            rintro e w5 ⟨rfl, hs9⟩
            have HK5 : Hid (Same w4 w5) := hid (by first | with_reducible exact hs9 | with_reducible exact (Keep.refl _ _).drew.then hs9)
            have HKW5 := hid (HKW4.out.then HK5.out)
            have HKB5 := hid (HKB4.out.then HK5.out)
            have hS5 := hid (HB.out _ HKB5.out)
            clear hs9)
          | (
            go_at_call 9
            (with_reducible refine (HAW.out _).mono ?_)
            rintro e w6 ⟨rfl, hs9⟩
            have HK6 : Hid (Same w5 w6) := hid (by first | with_reducible exact hs9 | with_reducible exact (Keep.refl _ _).drew.then hs9)
            have HKW6 := hid (HKW5.out.then HK6.out)
            have HKB6 := hid (HKB5.out.then HK6.out)
            have hS6 := hid (HB.out _ HKB6.out)
            clear hs9))
      go_wp2_with fail
      go_ret
      exact ⟨rfl, HKW6.out⟩
end Go.Proofs.Ytnejacmmbfeneaa

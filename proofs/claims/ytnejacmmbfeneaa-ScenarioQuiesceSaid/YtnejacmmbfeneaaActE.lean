import Derived.Test.YtnejacmmbfeneaaActB
import Derived.Test.YtnejacmmbfeneaaActC
import Derived.Test.YtnejacmmbfeneaaActD
import Derived.Test.YtnejacmmbfeneaaDice
import Derived.Deep.RegionHeld3
namespace Go.Proofs.Ytnejacmmbfeneaa
open Go.RowKit Go.PlainAid

/-! ## ScenarioQuiesce -/
theorem sims_ok {w : World} {A : Option Addr} {L : List AC} (h : ∀ a ∈ L, ∃ k v, a = sim k v) (hs : Sl w (fun _ => False) 8 A L.length (accells L)) : ActM w A L :=
  ⟨hs, fun a ha => by obtain ⟨k, v, rfl⟩ := h a ha; exact sim_ok w k v⟩
theorem both_any (w : World) (c : CF) (hm : CM w c) (rounds : Int) (hr : rounds ≤ 20) : ∃ L : List AC, (∀ a ∈ L, ∃ k v, a = sim k v) ∧ L.length ≤ 100000 ∧
    (∀ W, Same w W → Calls Try.prog 19 #[.agg c.cells.toArray, .int .i64 rounds] W (simPost W L)) ∧ (∀ W, Same w W → Calls Try.prog 20 #[.agg c.cells.toArray, .int .i64 rounds] W (simPost W L)) := by
  by_cases hv : vnum c = 0
  · refine ⟨_, cB_sim _ _ _, ?_, fun W hk => quiesce_ok W c (hm.same hk) rounds hr hv, fun W hk => calm_ok W c (hm.same hk) rounds hr hv⟩
    obtain ⟨hf, hu⟩ := vnum_ok hv
    have h1 := hf.1
    have h2 := hf.2.1
    rw [cB_len]
    have hp : (8 * (placesN c) + 32).toNat ≤ 2160 := by simp only [placesN]; omega
    have hq : rounds.toNat * ((8 * (placesN c) + 32).toNat + 1) ≤ 20 * 2161 := Nat.mul_le_mul (by omega) (by omega)
    omega
  · exact ⟨[], by simp, by simp, fun W hk => quiesce_bad W c (hm.same hk) rounds hr hv, fun W hk => calm_bad W c (hm.same hk) rounds hr hv⟩
section
variable (w : World)
theorem cfc_and {W : World} {g : Nat} {c : CF} (h : CFc W g c) : W.cell? ⟨g, 0, none⟩ = some (.int .i64 c.cen) ∧ W.cell? ⟨g, 1, none⟩ = some (.slice c.D c.dis.length c.cD) ∧ W.cell? ⟨g, 2, none⟩ = some (.slice c.E c.edg.length c.cE) ∧ W.cell? ⟨g, 3, none⟩ = some (.slice c.U c.uni.length c.cU) ∧ W.cell? ⟨g, 4, none⟩ = some (.slice c.P c.pla.length c.cP) ∧ W.cell? ⟨g, 5, none⟩ = some (.int .i64 c.h0) ∧ W.cell? ⟨g, 6, none⟩ = some (.int .i64 c.h1) ∧ W.cell? ⟨g, 7, none⟩ = some (.int .i64 c.h2) ∧ W.cell? ⟨g, 8, none⟩ = some (.int .i64 c.h3) ∧ W.cell? ⟨g, 9, none⟩ = some (.int .i64 c.h4) ∧ W.cell? ⟨g, 10, none⟩ = some (.int .i64 c.h5) ∧ W.cell? ⟨g, 11, none⟩ = some (.int .i64 c.h6) ∧ W.cell? ⟨g, 12, none⟩ = some (.int .i64 c.h7) ∧ W.cell? ⟨g, 13, none⟩ = some (.int .i64 c.h8) ∧ W.cell? ⟨g, 14, none⟩ = some (.int .i64 c.h9) :=
  ⟨h.c0, h.c1, h.c2, h.c3, h.c4, h.c5, h.c6, h.c7, h.c8, h.c9, h.c10, h.c11, h.c12, h.c13, h.c14⟩
set_option maxRecDepth 100000 in
set_option maxHeartbeats 8000000 in
theorem quiesce_walk (c : CF) (hm : CM w c) (hf : Few c) (rounds : Int) : Calls Try.prog 5 #[.agg c.cells.toArray, .int .i64 rounds] w fun e w' => e = .returned (.bool true) ∧ Same w w' := by
  have hb0 := Blk.made w 42 c.cells.toArray
  have hw0 := (Keep.refl (fun _ => False) w).alloc (.cells c.cells.toArray 42)
  have HB := hid (fun W (hk : Same (w.alloc (.cells c.cells.toArray 42)) W) => cfc (hb0.keep (S := fun _ => False) hk (fun f => f)))
  have HW := hid hw0
  have HGR := hid (fun W (hk : Same w W) => great_any W c (hm.same hk) hf)
  have HAW := hid awake_any
  have HBO := hid (fun hr => both_any w c hm rounds hr)
  have hb1 := cfc hb0
  clear hb0 hw0 hm hf
  obtain ⟨cen, D, cD, dis, E, cE, edg, U, cU, uni, P, cP, pla, h0, h1, h2, h3, h4, h5, h6, h7, h8, h9⟩ := c
  obtain ⟨c0, c1, c2, c3, c4, c5, c6, c7, c8, c9, c10, c11, c12, c13, c14, hg⟩ := hb1
  simp only [CF.cells] at *
  by_cases hr : 20 < rounds
  · go_enter Try.func5, Try.ntmps5
    go_wp2_with fail
    (with_reducible refine (HGR.out _ HW.out).mono ?_)
    rintro e w1 ⟨gb, rfl, hgb, hs1⟩
    have HS1 := hid hs1
    clear hs1 hgb
    have HK1 := hid (HW.out.then HS1.out)
    cases gb
    · go_wp2_with (go_at_call 9; (with_reducible refine (HAW.out _).mono ?_); rintro e w2 ⟨rfl, hs2⟩; have HS2 := hid hs2; clear hs2)
      go_ret
      exact ⟨rfl, HK1.out.then HS2.out⟩
    · go_wp2_with (go_at_call 9; (with_reducible refine (HAW.out _).mono ?_); rintro e w2 ⟨rfl, hs2⟩; have HS2 := hid hs2; clear hs2)
      go_ret
      exact ⟨rfl, HK1.out.then HS2.out⟩
  · obtain ⟨L, hL, hLL, hQ, hC⟩ := HBO.out (by omega)
    have HQ := hid hQ
    have HC := hid hC
    have HL := hid hL
    clear hQ hC hL HBO
    go_enter Try.func5, Try.ntmps5
    go_wp2_with fail
    (with_reducible refine (HGR.out _ HW.out).mono ?_)
    rintro e w1 ⟨gb, rfl, hgb, hs1⟩
    have HS1 := hid hs1
    clear hs1 hgb
    cases gb
    rotate_left 1
    · have HK1 := hid (HW.out.then HS1.out)
      go_wp2_with (go_at_call 9; (with_reducible refine (HAW.out _).mono ?_); rintro e w2 ⟨rfl, hs2⟩; have HS2 := hid hs2; clear hs2)
      go_ret
      exact ⟨rfl, HK1.out.then HS2.out⟩
    · generalize w.alloc (.cells #[.int .i64 cen, .slice D dis.length cD, .slice E edg.length cE, .slice U uni.length cU, .slice P pla.length cP, .int .i64 h0, .int .i64 h1, .int .i64 h2, .int .i64 h3, .int .i64 h4, .int .i64 h5, .int .i64 h6, .int .i64 h7, .int .i64 h8, .int .i64 h9] 42) = w0 at *
      have HK0 := hid (Keep.refl (fun _ => False) w1)
      have HKW := hid (HW.out.then HS1.out)
      clear c0 c1 c2 c3 c4 c5 c6 c7 c8 c9 c10 c11 c12 c13 c14 hg
      obtain ⟨c0, c1, c2, c3, c4, c5, c6, c7, c8, c9, c10, c11, c12, c13, c14, hg⟩ := HB.out w1 HS1.out
      simp only at c0 c1 c2 c3 c4 c5 c6 c7 c8 c9 c10 c11 c12 c13 c14
      go_upto_region 3 with fail
      have HKW1 := hid HKW.out
      have HKB1 := hid HS1.out
      go_region_held3 (fun W => W.cell? ⟨w.heap.size, 0, none⟩ = some (.int .i64 cen) ∧ W.cell? ⟨w.heap.size, 1, none⟩ = some (.slice D dis.length cD) ∧ W.cell? ⟨w.heap.size, 2, none⟩ = some (.slice E edg.length cE) ∧ W.cell? ⟨w.heap.size, 3, none⟩ = some (.slice U uni.length cU) ∧ W.cell? ⟨w.heap.size, 4, none⟩ = some (.slice P pla.length cP) ∧ W.cell? ⟨w.heap.size, 5, none⟩ = some (.int .i64 h0) ∧ W.cell? ⟨w.heap.size, 6, none⟩ = some (.int .i64 h1) ∧ W.cell? ⟨w.heap.size, 7, none⟩ = some (.int .i64 h2) ∧ W.cell? ⟨w.heap.size, 8, none⟩ = some (.int .i64 h3) ∧ W.cell? ⟨w.heap.size, 9, none⟩ = some (.int .i64 h4) ∧ W.cell? ⟨w.heap.size, 10, none⟩ = some (.int .i64 h5) ∧ W.cell? ⟨w.heap.size, 11, none⟩ = some (.int .i64 h6) ∧ W.cell? ⟨w.heap.size, 12, none⟩ = some (.int .i64 h7) ∧ W.cell? ⟨w.heap.size, 13, none⟩ = some (.int .i64 h8) ∧ W.cell? ⟨w.heap.size, 14, none⟩ = some (.int .i64 h9))
        (first | exact ⟨c0, c1, c2, c3, c4, c5, c6, c7, c8, c9, c10, c11, c12, c13, c14⟩ | exact hS2.out | exact hS3.out | exact hS4.out | exact hS5.out | go_keep)
        (first
          | (go_at_call 19; (with_reducible refine (HQ.out _ ?hk2).mono ?hm2); (case hk2 => first | exact HKW1.out | exact HKW1.out.drew); rintro e w2 ⟨A2, d2, rfl, hsl2, hs2⟩
             have HSL2 := hid hsl2
             have HKS2 : Hid (Same w1 w2) := hid (by first | exact hs2 | exact (Keep.refl _ _).drew.then hs2)
             have HKW2 := hid (HKW1.out.then HKS2.out)
             have HKB2 := hid (HKB1.out.then HKS2.out)
             have hS2 : Hid (w2.cell? ⟨w.heap.size, 0, none⟩ = some (.int .i64 cen) ∧ w2.cell? ⟨w.heap.size, 1, none⟩ = some (.slice D dis.length cD) ∧ w2.cell? ⟨w.heap.size, 2, none⟩ = some (.slice E edg.length cE) ∧ w2.cell? ⟨w.heap.size, 3, none⟩ = some (.slice U uni.length cU) ∧ w2.cell? ⟨w.heap.size, 4, none⟩ = some (.slice P pla.length cP) ∧ w2.cell? ⟨w.heap.size, 5, none⟩ = some (.int .i64 h0) ∧ w2.cell? ⟨w.heap.size, 6, none⟩ = some (.int .i64 h1) ∧ w2.cell? ⟨w.heap.size, 7, none⟩ = some (.int .i64 h2) ∧ w2.cell? ⟨w.heap.size, 8, none⟩ = some (.int .i64 h3) ∧ w2.cell? ⟨w.heap.size, 9, none⟩ = some (.int .i64 h4) ∧ w2.cell? ⟨w.heap.size, 10, none⟩ = some (.int .i64 h5) ∧ w2.cell? ⟨w.heap.size, 11, none⟩ = some (.int .i64 h6) ∧ w2.cell? ⟨w.heap.size, 12, none⟩ = some (.int .i64 h7) ∧ w2.cell? ⟨w.heap.size, 13, none⟩ = some (.int .i64 h8) ∧ w2.cell? ⟨w.heap.size, 14, none⟩ = some (.int .i64 h9)) := hid (cfc_and (HB.out _ HKB2.out))
             clear hsl2 hs2)
          | (go_at_call 20; (with_reducible refine (HC.out _ ?hk3).mono ?hm3); (case hk3 => first | exact HKW2.out | exact HKW2.out.drew); rintro e w3 ⟨A3, d3, rfl, hsl3, hs3⟩
             have HSL3 := hid hsl3
             have HKS3 : Hid (Same w2 w3) := hid (by first | exact hs3 | exact (Keep.refl _ _).drew.then hs3)
             have HKW3 := hid (HKW2.out.then HKS3.out)
             have HKB3 := hid (HKB2.out.then HKS3.out)
             have hS3 : Hid (w3.cell? ⟨w.heap.size, 0, none⟩ = some (.int .i64 cen) ∧ w3.cell? ⟨w.heap.size, 1, none⟩ = some (.slice D dis.length cD) ∧ w3.cell? ⟨w.heap.size, 2, none⟩ = some (.slice E edg.length cE) ∧ w3.cell? ⟨w.heap.size, 3, none⟩ = some (.slice U uni.length cU) ∧ w3.cell? ⟨w.heap.size, 4, none⟩ = some (.slice P pla.length cP) ∧ w3.cell? ⟨w.heap.size, 5, none⟩ = some (.int .i64 h0) ∧ w3.cell? ⟨w.heap.size, 6, none⟩ = some (.int .i64 h1) ∧ w3.cell? ⟨w.heap.size, 7, none⟩ = some (.int .i64 h2) ∧ w3.cell? ⟨w.heap.size, 8, none⟩ = some (.int .i64 h3) ∧ w3.cell? ⟨w.heap.size, 9, none⟩ = some (.int .i64 h4) ∧ w3.cell? ⟨w.heap.size, 10, none⟩ = some (.int .i64 h5) ∧ w3.cell? ⟨w.heap.size, 11, none⟩ = some (.int .i64 h6) ∧ w3.cell? ⟨w.heap.size, 12, none⟩ = some (.int .i64 h7) ∧ w3.cell? ⟨w.heap.size, 13, none⟩ = some (.int .i64 h8) ∧ w3.cell? ⟨w.heap.size, 14, none⟩ = some (.int .i64 h9)) := hid (cfc_and (HB.out _ HKB3.out))
             clear hsl3 hs3)
          | (go_at_call 18; (with_reducible refine (same_true _ A2 A3 d2 d3 L L hLL rfl ?hx4 ?hy4).mono ?hm4); (case hx4 => first | exact (sims_ok HL.out (HSL2.out.same HKS3.out)) | exact (sims_ok HL.out (HSL2.out.same HKS3.out.drew))); (case hy4 => first | exact sims_ok HL.out HSL3.out | exact sims_ok HL.out (HSL3.out.same (Keep.refl _ _).drew)); rintro e w4 ⟨rfl, hs4⟩
             have HKS4 : Hid (Same w3 w4) := hid (by first | exact hs4 | exact (Keep.refl _ _).drew.then hs4)
             have HKB4 := hid (HKB3.out.then HKS4.out)
             have hS4 : Hid (w4.cell? ⟨w.heap.size, 0, none⟩ = some (.int .i64 cen) ∧ w4.cell? ⟨w.heap.size, 1, none⟩ = some (.slice D dis.length cD) ∧ w4.cell? ⟨w.heap.size, 2, none⟩ = some (.slice E edg.length cE) ∧ w4.cell? ⟨w.heap.size, 3, none⟩ = some (.slice U uni.length cU) ∧ w4.cell? ⟨w.heap.size, 4, none⟩ = some (.slice P pla.length cP) ∧ w4.cell? ⟨w.heap.size, 5, none⟩ = some (.int .i64 h0) ∧ w4.cell? ⟨w.heap.size, 6, none⟩ = some (.int .i64 h1) ∧ w4.cell? ⟨w.heap.size, 7, none⟩ = some (.int .i64 h2) ∧ w4.cell? ⟨w.heap.size, 8, none⟩ = some (.int .i64 h3) ∧ w4.cell? ⟨w.heap.size, 9, none⟩ = some (.int .i64 h4) ∧ w4.cell? ⟨w.heap.size, 10, none⟩ = some (.int .i64 h5) ∧ w4.cell? ⟨w.heap.size, 11, none⟩ = some (.int .i64 h6) ∧ w4.cell? ⟨w.heap.size, 12, none⟩ = some (.int .i64 h7) ∧ w4.cell? ⟨w.heap.size, 13, none⟩ = some (.int .i64 h8) ∧ w4.cell? ⟨w.heap.size, 14, none⟩ = some (.int .i64 h9)) := hid (cfc_and (HB.out _ HKB4.out))
             clear hs4)
          | (go_at_call 9; (with_reducible refine (HAW.out _).mono ?_); rintro e w5 ⟨rfl, hs5⟩
             have HKS5 : Hid (Same w4 w5) := hid (by first | exact hs5 | exact (Keep.refl _ _).drew.then hs5)
             have hS5 : Hid (w5.cell? ⟨w.heap.size, 0, none⟩ = some (.int .i64 cen) ∧ w5.cell? ⟨w.heap.size, 1, none⟩ = some (.slice D dis.length cD) ∧ w5.cell? ⟨w.heap.size, 2, none⟩ = some (.slice E edg.length cE) ∧ w5.cell? ⟨w.heap.size, 3, none⟩ = some (.slice U uni.length cU) ∧ w5.cell? ⟨w.heap.size, 4, none⟩ = some (.slice P pla.length cP) ∧ w5.cell? ⟨w.heap.size, 5, none⟩ = some (.int .i64 h0) ∧ w5.cell? ⟨w.heap.size, 6, none⟩ = some (.int .i64 h1) ∧ w5.cell? ⟨w.heap.size, 7, none⟩ = some (.int .i64 h2) ∧ w5.cell? ⟨w.heap.size, 8, none⟩ = some (.int .i64 h3) ∧ w5.cell? ⟨w.heap.size, 9, none⟩ = some (.int .i64 h4) ∧ w5.cell? ⟨w.heap.size, 10, none⟩ = some (.int .i64 h5) ∧ w5.cell? ⟨w.heap.size, 11, none⟩ = some (.int .i64 h6) ∧ w5.cell? ⟨w.heap.size, 12, none⟩ = some (.int .i64 h7) ∧ w5.cell? ⟨w.heap.size, 13, none⟩ = some (.int .i64 h8) ∧ w5.cell? ⟨w.heap.size, 14, none⟩ = some (.int .i64 h9)) := hid (cfc_and (HB.out _ (HKB4.out.then HKS5.out)))
             clear hs5))
      go_wp2_with fail
      go_ret
      exact ⟨rfl, HKW3.out.then (HKS4.out.then HKS5.out)⟩
end
end Go.Proofs.Ytnejacmmbfeneaa

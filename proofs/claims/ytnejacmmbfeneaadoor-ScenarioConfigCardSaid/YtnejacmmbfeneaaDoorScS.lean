import Derived.Test.YtnejacmmbfeneaaDoorScQ
import Derived.Test.YtnejacmmbfeneaaDoorRegU
import Derived.Test.YtnejacmmbfeneaaDoorStep
import Derived.Deep.Cut
import Derived.Deep.CutRange
import Derived.RegionTactic
namespace Go.Proofs.YtnejacmmbfeneaaDoor
open Go.RowKit

/-! ## Two configurations with the same contents -/
def PL.val (p : PL) : ByteArray × Int × List Int := (p.code, p.urg, p.kinds)
structure Alike (c d : CF) : Prop where
  e0 : c.cen = d.cen
  e1 : c.dis = d.dis
  e2 : c.edg = d.edg
  e3 : c.uni = d.uni
  e4 : c.pla.map PL.val = d.pla.map PL.val
  e5 : [c.h0, c.h1, c.h2, c.h3, c.h4, c.h5, c.h6, c.h7, c.h8, c.h9] = [d.h0, d.h1, d.h2, d.h3, d.h4, d.h5, d.h6, d.h7, d.h8, d.h9]
structure Short (c : CF) : Prop where
  b1 : c.dis.length ≤ 100000
  b2 : c.edg.length ≤ 100000
  b3 : c.uni.length ≤ 100000
  b4 : c.pla.length ≤ 100000
  b5 : ∀ p ∈ c.pla, p.kinds.length ≤ 100000 ∧ p.code.size ≤ 100000
def N10 (c : CF) : Array Value := #[.int .i64 c.h0, .int .i64 c.h1, .int .i64 c.h2, .int .i64 c.h3, .int .i64 c.h4, .int .i64 c.h5, .int .i64 c.h6, .int .i64 c.h7, .int .i64 c.h8, .int .i64 c.h9]
theorem one_restN {F G : Nat → Nat → World → Prop} {goal : Prop} (main : (∀ g h W, F g h W → G g h W) → goal) (rest : ∀ g h W, F g h W → G g h W) : goal := main rest
set_option maxRecDepth 100000 in
set_option maxHeartbeats 4000000 in
theorem same_conf (w : World) (c d : CF) (hC : CM w c) (hD : CM w d) (hA : Alike c d) (hb : Short c) :
    Calls Tryd.prog 6 #[.agg c.cells.toArray, .agg d.cells.toArray] w fun e w' => e = .returned (.bool true) ∧ Same w w' := by
  have hn1 := fun W => numbers_any W c
  have hn2 := fun W => numbers_any W d
  obtain ⟨cen, D, cD, dis, E, cE, edg, U, cU, uni, P, cP, pla, h0, h1, h2, h3, h4, h5, h6, h7, h8, h9⟩ := c
  obtain ⟨cen2, D2, cD2, dis2, E2, cE2, edg2, U2, cU2, uni2, P2, cP2, pla2, i0, i1, i2, i3, i4, i5, i6, i7, i8, i9⟩ := d
  obtain ⟨e0, e1, e2, e3, e4, e5⟩ := hA
  simp only at e0 e1 e2 e3 e4 e5
  simp only [List.cons.injEq, and_true] at e5
  obtain ⟨rfl, rfl, rfl, rfl, rfl, rfl, rfl, rfl, rfl, rfl⟩ := e5
  subst e0 e1 e2 e3
  obtain ⟨b1, b2, b3, b4, b5⟩ := hb
  simp only at b1 b2 b3 b4 b5
  have hpl : pla.length = pla2.length := by have := congrArg List.length e4; simpa using this
  have HPV := hid (show ∀ (k : Nat) (a b : PL), pla[k]? = some a → pla2[k]? = some b → a.val = b.val from fun k a b ha hb => by
    have : (pla.map PL.val)[k]? = (pla2.map PL.val)[k]? := by rw [e4]
    simpa [ha, hb] using this)
  have HN1 := hid (show ∀ W, Calls Tryd.prog 21 #[.agg #[.int .i64 cen, .slice D dis.length cD, .slice E edg.length cE, .slice U uni.length cU, .slice P pla.length cP, .int .i64 h0, .int .i64 h1, .int .i64 h2, .int .i64 h3, .int .i64 h4, .int .i64 h5, .int .i64 h6, .int .i64 h7, .int .i64 h8, .int .i64 h9]] W (fun e w' => ∃ g, e = .returned (.slice (some ⟨g, 0, none⟩) 10 10) ∧ Blk w' g 2 (icellsC [h0, h1, h2, h3, h4, h5, h6, h7, h8, h9]).toArray ∧ Same W w') from fun W => (hn1 W).mono (by rintro e w' ⟨⟨g, he, _, hb⟩, hk⟩; exact ⟨g, he, hb, hk⟩))
  have HN2 := hid (show ∀ W, Calls Tryd.prog 21 #[.agg #[.int .i64 cen, .slice D2 dis.length cD2, .slice E2 edg.length cE2, .slice U2 uni.length cU2, .slice P2 pla2.length cP2, .int .i64 h0, .int .i64 h1, .int .i64 h2, .int .i64 h3, .int .i64 h4, .int .i64 h5, .int .i64 h6, .int .i64 h7, .int .i64 h8, .int .i64 h9]] W (fun e w' => ∃ g, e = .returned (.slice (some ⟨g, 0, none⟩) 10 10) ∧ Blk w' g 2 (icellsC [h0, h1, h2, h3, h4, h5, h6, h7, h8, h9]).toArray ∧ Same W w') from fun W => (hn2 W).mono (by rintro e w' ⟨⟨g, he, _, hb⟩, hk⟩; exact ⟨g, he, hb, hk⟩))
  clear hn1 hn2
  have HC := hid hC
  have HD := hid hD
  have HPL := hid hpl
  have HB5 := hid b5
  have hz1 := Blk.made w 30 ((⟨cen, D, cD, dis, E, cE, edg, U, cU, uni, P, cP, pla, h0, h1, h2, h3, h4, h5, h6, h7, h8, h9⟩ : CF)).cells.toArray
  have hz2 := Blk.made (w.alloc (.cells ((⟨cen, D, cD, dis, E, cE, edg, U, cU, uni, P, cP, pla, h0, h1, h2, h3, h4, h5, h6, h7, h8, h9⟩ : CF)).cells.toArray 30)) 30 ((⟨cen, D2, cD2, dis, E2, cE2, edg, U2, cU2, uni, P2, cP2, pla2, h0, h1, h2, h3, h4, h5, h6, h7, h8, h9⟩ : CF)).cells.toArray
  have hz3 := hz1.alloc (.cells ((⟨cen, D2, cD2, dis, E2, cE2, edg, U2, cU2, uni, P2, cP2, pla2, h0, h1, h2, h3, h4, h5, h6, h7, h8, h9⟩ : CF)).cells.toArray 30)
  rw [World.size_alloc] at hz2
  have HK := hid (((Keep.refl (fun _ => False) w).alloc (.cells ((⟨cen, D, cD, dis, E, cE, edg, U, cU, uni, P, cP, pla, h0, h1, h2, h3, h4, h5, h6, h7, h8, h9⟩ : CF)).cells.toArray 30)).alloc (.cells ((⟨cen, D2, cD2, dis, E2, cE2, edg, U2, cU2, uni, P2, cP2, pla2, h0, h1, h2, h3, h4, h5, h6, h7, h8, h9⟩ : CF)).cells.toArray 30))
  clear hC hD e4 hpl b5 hz1
  simp only [CF.cells] at hz2 hz3 HK ⊢
  have HZ1 := hid hz3
  have HZ2 := hid hz2
  clear hz2 hz3
  go_enter Tryd.func6, Tryd.ntmps6
  go_upto_region 1 with fail
  have HS1 := hid (show ∀ W, Same w W → True from fun _ _ => trivial)
  clear HS1
  obtain ⟨g2, hg2⟩ : ∃ g, g = w.heap.size := ⟨_, rfl⟩
  obtain ⟨g3, hg3⟩ : ∃ g, g = w.heap.size + 1 := ⟨_, rfl⟩
  rw [← hg3] at HZ2 ⊢
  rw [← hg2] at HZ1 ⊢
  generalize ((w.alloc (.cells #[.int .i64 cen, .slice D dis.length cD, .slice E edg.length cE, .slice U uni.length cU, .slice P pla.length cP, .int .i64 h0, .int .i64 h1, .int .i64 h2, .int .i64 h3, .int .i64 h4, .int .i64 h5, .int .i64 h6, .int .i64 h7, .int .i64 h8, .int .i64 h9] 30)).alloc (.cells #[.int .i64 cen, .slice D2 dis.length cD2, .slice E2 edg.length cE2, .slice U2 uni.length cU2, .slice P2 pla2.length cP2, .int .i64 h0, .int .i64 h1, .int .i64 h2, .int .i64 h3, .int .i64 h4, .int .i64 h5, .int .i64 h6, .int .i64 h7, .int .i64 h8, .int .i64 h9] 30)) = w1 at *
  have HC1 := hid (HC.out.same HK.out)
  have HD1 := hid (HD.out.same HK.out)
  have HKK := HK
  clear hg2 hg3 HC HD HK
  have a0 : w1.cell? ⟨g2, 0, none⟩ = some (.int .i64 cen) := (HZ1.out.at_ 0).trans rfl
  have q0 : w1.cell? ⟨g3, 0, none⟩ = some (.int .i64 cen) := ((HZ2.out.at_ 0).trans rfl)
  have a1 : w1.cell? ⟨g2, 1, none⟩ = some (.slice D dis.length cD) := (HZ1.out.at_ 1).trans rfl
  have q1 : w1.cell? ⟨g3, 1, none⟩ = some (.slice D2 dis.length cD2) := ((HZ2.out.at_ 1).trans rfl)
  have a2 : w1.cell? ⟨g2, 2, none⟩ = some (.slice E edg.length cE) := (HZ1.out.at_ 2).trans rfl
  have q2 : w1.cell? ⟨g3, 2, none⟩ = some (.slice E2 edg.length cE2) := ((HZ2.out.at_ 2).trans rfl)
  have a3 : w1.cell? ⟨g2, 3, none⟩ = some (.slice U uni.length cU) := (HZ1.out.at_ 3).trans rfl
  have q3 : w1.cell? ⟨g3, 3, none⟩ = some (.slice U2 uni.length cU2) := ((HZ2.out.at_ 3).trans rfl)
  have a4 : w1.cell? ⟨g2, 4, none⟩ = some (.slice P pla.length cP) := (HZ1.out.at_ 4).trans rfl
  have q4 : w1.cell? ⟨g3, 4, none⟩ = some (.slice P2 pla.length cP2) := (HZ2.out.at_ 4).trans (by rw [HPL.out]; rfl)
  go_upto_region 3 with fail
  have HS0 := hid (Keep.refl (fun _ => False) w1)
  go_wp2_with fail
  clear a1 q1
  go_loopw [59] (fun i wr => ∃ k : Nat, k ≤ dis.length ∧ i = .int .i64 k ∧ Hid (Same w1 wr)) (fun i _ => dis.length - (RowKit.intOf i).toNat)
  case atStart => exact ⟨0, Nat.zero_le _, rfl, HS0⟩
  case round =>
    obtain ⟨k, hk, rfl, HI⟩ := hrel
    by_cases hkn : k < dis.length
    · obtain ⟨v, hv⟩ := get_some hkn
      have a1 : wr.cell? ⟨g2, 1, none⟩ = some (.slice D dis.length cD) := ((HZ1.out.keep HI.out (fun f => f)).at_ 1).trans rfl
      have q1 : wr.cell? ⟨g3, 1, none⟩ = some (.slice D2 dis.length cD2) := (((HZ2.out.keep HI.out (fun f => f)).at_ 1).trans rfl)
      obtain ⟨b1, o1, rfl, hb1, x0⟩ := ints_at (HC1.out.dis.same HI.out) hv
      obtain ⟨b2, o2, rfl, hb2, y0⟩ := ints_at (HD1.out.dis.same HI.out) hv
      clear hv
      have hk0 : (0 : Int) ≤ (k : Int) := Int.natCast_nonneg _
      have hk1 : (k : Int) < (dis.length : Int) := by omega
      go_upto_region 6 with fail
      go_quiet (fail)
      go_wp2_with fail
      go_round
      case rel => exact ⟨k + 1, by omega, by go_num, hid (HI.out.drewN _)⟩
      case measure => simp [RowKit.intOf]; omega
    · have hke : k = dis.length := by omega
      subst hke
      obtain ⟨wo, ho⟩ : ∃ x, x = wr := ⟨_, rfl⟩
      subst ho
      have HI1 := HI
      clear HI
      have a2 : wo.cell? ⟨g2, 2, none⟩ = some (.slice E edg.length cE) := ((HZ1.out.keep HI1.out (fun f => f)).at_ 2).trans rfl
      have q2 : wo.cell? ⟨g3, 2, none⟩ = some (.slice E2 edg.length cE2) := (((HZ2.out.keep HI1.out (fun f => f)).at_ 2).trans rfl)
      go_wp2_with fail
      clear a2 q2
      go_loopw [77] (fun i wr => ∃ k : Nat, k ≤ edg.length ∧ i = .int .i64 k ∧ Hid (Same w1 wr)) (fun i _ => edg.length - (RowKit.intOf i).toNat)
      case atStart => exact ⟨0, Nat.zero_le _, rfl, HI1⟩
      case round =>
        obtain ⟨k, hk, rfl, HI⟩ := hrel
        by_cases hkn : k < edg.length
        · obtain ⟨v, hv⟩ := get_some hkn
          have a2 : wr.cell? ⟨g2, 2, none⟩ = some (.slice E edg.length cE) := ((HZ1.out.keep HI.out (fun f => f)).at_ 2).trans rfl
          have q2 : wr.cell? ⟨g3, 2, none⟩ = some (.slice E2 edg.length cE2) := (((HZ2.out.keep HI.out (fun f => f)).at_ 2).trans rfl)
          obtain ⟨b1, o1, rfl, hb1, x0, x1, x2⟩ := e3_at (HC1.out.edg.same HI.out) hv
          obtain ⟨b2, o2, rfl, hb2, y0, y1, y2⟩ := e3_at (HD1.out.edg.same HI.out) hv
          clear hv
          have hk0 : (0 : Int) ≤ (k : Int) := Int.natCast_nonneg _
          have hk1 : (k : Int) < (edg.length : Int) := by omega
          go_upto_region 12 with fail
          go_quiet (fail)
          go_wp2_with fail
          go_round
          case rel => exact ⟨k + 1, by omega, by go_num, hid (HI.out.drewN _)⟩
          case measure => simp [RowKit.intOf]; omega
        · have hke : k = edg.length := by omega
          subst hke
          obtain ⟨wo, ho⟩ : ∃ x, x = wr := ⟨_, rfl⟩
          subst ho
          have HI2 := HI
          clear HI
          have a3 : wo.cell? ⟨g2, 3, none⟩ = some (.slice U uni.length cU) := ((HZ1.out.keep HI2.out (fun f => f)).at_ 3).trans rfl
          have q3 : wo.cell? ⟨g3, 3, none⟩ = some (.slice U2 uni.length cU2) := (((HZ2.out.keep HI2.out (fun f => f)).at_ 3).trans rfl)
          go_wp2_with fail
          clear a3 q3
          go_loopw [95] (fun i wr => ∃ k : Nat, k ≤ uni.length ∧ i = .int .i64 k ∧ Hid (Same w1 wr)) (fun i _ => uni.length - (RowKit.intOf i).toNat)
          case atStart => exact ⟨0, Nat.zero_le _, rfl, HI2⟩
          case round =>
            obtain ⟨k, hk, rfl, HI⟩ := hrel
            by_cases hkn : k < uni.length
            · obtain ⟨v, hv⟩ := get_some hkn
              have a3 : wr.cell? ⟨g2, 3, none⟩ = some (.slice U uni.length cU) := ((HZ1.out.keep HI.out (fun f => f)).at_ 3).trans rfl
              have q3 : wr.cell? ⟨g3, 3, none⟩ = some (.slice U2 uni.length cU2) := (((HZ2.out.keep HI.out (fun f => f)).at_ 3).trans rfl)
              obtain ⟨b1, o1, rfl, hb1, x0, x1, x2⟩ := e3_at (HC1.out.uni.same HI.out) hv
              obtain ⟨b2, o2, rfl, hb2, y0, y1, y2⟩ := e3_at (HD1.out.uni.same HI.out) hv
              clear hv
              have hk0 : (0 : Int) ≤ (k : Int) := Int.natCast_nonneg _
              have hk1 : (k : Int) < (uni.length : Int) := by omega
              go_upto_region 18 with fail
              go_quiet (fail)
              go_wp2_with fail
              go_round
              case rel => exact ⟨k + 1, by omega, by go_num, hid (HI.out.drewN _)⟩
              case measure => simp [RowKit.intOf]; omega
            · have hke : k = uni.length := by omega
              subst hke
              obtain ⟨wo, ho⟩ : ∃ x, x = wr := ⟨_, rfl⟩
              subst ho
              have HI3 := HI
              clear HI
              have a4 : wo.cell? ⟨g2, 4, none⟩ = some (.slice P pla.length cP) := ((HZ1.out.keep HI3.out (fun f => f)).at_ 4).trans rfl
              have q4 : wo.cell? ⟨g3, 4, none⟩ = some (.slice P2 pla.length cP2) := ((HZ2.out.keep HI3.out (fun f => f)).at_ 4).trans (by rw [HPL.out]; rfl)
              go_wp2_with fail
              clear a4 q4
              go_loopw [113] (fun i wr => ∃ k : Nat, k ≤ pla.length ∧ i = .int .i64 k ∧ Hid (Same w1 wr)) (fun i _ => pla.length - (RowKit.intOf i).toNat)
              case atStart => exact ⟨0, Nat.zero_le _, rfl, HI3⟩
              case round =>
                obtain ⟨k, hk, rfl, HI⟩ := hrel
                by_cases hkn : k < pla.length
                · obtain ⟨v, hv⟩ := get_some hkn
                  obtain ⟨v2, hv2⟩ := get_some (l := pla2) (k := k) (by rw [← HPL.out]; exact hkn)
                  have a4 : wr.cell? ⟨g2, 4, none⟩ = some (.slice P pla.length cP) := ((HZ1.out.keep HI.out (fun f => f)).at_ 4).trans rfl
                  have q4 : wr.cell? ⟨g3, 4, none⟩ = some (.slice P2 pla.length cP2) := ((HZ2.out.keep HI.out (fun f => f)).at_ 4).trans (by rw [HPL.out]; rfl)
                  obtain ⟨b1, o1, rfl, hb1, x0, x1, x2⟩ := pl_at (HC1.out.pla.same HI.out) hv
                  obtain ⟨b2, o2, rfl, hb2, y0, y1, y2⟩ := pl_at (HD1.out.pla.same HI.out) hv2
                  have hvv := HPV.out k v v2 hv hv2
                  have hka := (HC1.out.kinds v (List.mem_of_getElem? hv)).1.same HI.out
                  have hkb := (HD1.out.kinds v2 (List.mem_of_getElem? hv2)).1.same HI.out
                  have hbd := HB5.out v (List.mem_of_getElem? hv)
                  obtain ⟨code, urg, K, cc, kinds⟩ := v
                  obtain ⟨code2, urg2, K2, cc2, kinds2⟩ := v2
                  simp only [PL.val, Prod.mk.injEq] at hvv
                  obtain ⟨rfl, rfl, rfl⟩ := hvv
                  simp only at x0 x1 x2 y0 y1 y2 hka hkb hbd
                  obtain ⟨hbk, hbc⟩ := hbd
                  have HKA := hid hka
                  have HKB := hid hkb
                  clear hka hkb hv hv2
                  have hk0 : (0 : Int) ≤ (k : Int) := Int.natCast_nonneg _
                  have hk1 : (k : Int) < (pla.length : Int) := by omega
                  go_upto_region 24 with fail
                  go_cut [9, 10] from 114 to 165 (fun u9 u10 w' => ∃ g6 g7 : Nat, u9 = .pointer (some ⟨g6, 0, none⟩) ∧ u10 = .pointer (some ⟨g7, 0, none⟩) ∧ Hid (Same wr w' ∧ Blk w' g6 57 #[.string code, .int .i64 urg, .slice K kinds.length cc] ∧ Blk w' g7 57 #[.string code, .int .i64 urg, .slice K2 kinds.length cc2]))
                  case first =>
                    go_region_held3 (fun W => W.cell? ⟨b1, o1 + k * 3, none⟩ = some (.string code) ∧ W.cell? ⟨b1, o1 + k * 3 + 1, none⟩ = some (.int .i64 urg) ∧ W.cell? ⟨b1, o1 + k * 3 + 2, none⟩ = some (.slice K kinds.length cc) ∧ W.cell? ⟨b2, o2 + k * 3, none⟩ = some (.string code) ∧ W.cell? ⟨b2, o2 + k * 3 + 1, none⟩ = some (.int .i64 urg) ∧ W.cell? ⟨b2, o2 + k * 3 + 2, none⟩ = some (.slice K2 kinds.length cc2) ∧ W.cell? ⟨g2, 4, none⟩ = some (.slice (some ⟨b1, o1, none⟩) pla.length cP) ∧ W.cell? ⟨g3, 4, none⟩ = some (.slice (some ⟨b2, o2, none⟩) pla.length cP2))
                      (first | exact ⟨x0, x1, x2, y0, y1, y2, a4, q4⟩ | go_keep) (fail)
                    all_goals (go_wp2_with fail; go_meet; exact ⟨_, _, rfl, rfl, hid ⟨(((Keep.refl _ wr).alloc _).alloc _).drew, by first | exact ((Blk.made wr _ _).alloc _).drew | (have := Blk.made (wr.alloc (.cells #[.string code, .int .i64 urg, .slice K2 kinds.length cc2] 57)) 57 #[.string code, .int .i64 urg, .slice K kinds.length cc]; rw [World.size_alloc] at this; exact this.drew), by first | exact ((Blk.made wr _ _).alloc _).drew | (have := Blk.made (wr.alloc (.cells #[.string code, .int .i64 urg, .slice K kinds.length cc] 57)) 57 #[.string code, .int .i64 urg, .slice K2 kinds.length cc2]; rw [World.size_alloc] at this; exact this.drew)⟩⟩)
                  case rest =>
                    obtain ⟨g6, g7, rfl, rfl, HX⟩ := hcut
                    clear x0 x1 x2 y0 y1 y2 a4 q4
                    have a0 : wc.cell? ⟨g6, 0, none⟩ = some (.string code) := (HX.out.2.1.at_ 0).trans rfl
                    have a1 : wc.cell? ⟨g6, 1, none⟩ = some (.int .i64 urg) := (HX.out.2.1.at_ 1).trans rfl
                    have a2 : wc.cell? ⟨g6, 2, none⟩ = some (.slice K kinds.length cc) := (HX.out.2.1.at_ 2).trans rfl
                    have b0 : wc.cell? ⟨g7, 0, none⟩ = some (.string code) := (HX.out.2.2.at_ 0).trans rfl
                    have b1' : wc.cell? ⟨g7, 1, none⟩ = some (.int .i64 urg) := (HX.out.2.2.at_ 1).trans rfl
                    have b2' : wc.cell? ⟨g7, 2, none⟩ = some (.slice K2 kinds.length cc2) := (HX.out.2.2.at_ 2).trans rfl
                    have HKC := hid (HI.out.then HX.out.1)
                    go_wp2_with fail
                    clear a0 a1 a2 b0 b1' b2'
                    go_loopw [150] (fun i wr => ∃ j : Nat, j ≤ kinds.length ∧ i = .int .i64 j ∧ Hid (Same wc wr)) (fun i _ => kinds.length - (RowKit.intOf i).toNat)
                    case atStart => exact ⟨0, Nat.zero_le _, rfl, hid (Keep.refl _ _)⟩
                    case round =>
                      obtain ⟨j, hj, rfl, HJ⟩ := hrel
                      by_cases hjn : j < kinds.length
                      · obtain ⟨s, hs⟩ := get_some hjn
                        have a2 : wr.cell? ⟨g6, 2, none⟩ = some (.slice K kinds.length cc) := ((HX.out.2.1.keep HJ.out (fun f => f)).at_ 2).trans rfl
                        have q2 : wr.cell? ⟨g7, 2, none⟩ = some (.slice K2 kinds.length cc2) := ((HX.out.2.2.keep HJ.out (fun f => f)).at_ 2).trans rfl
                        obtain ⟨b3, o3, rfl, hb3, s0⟩ := ints_at (HKA.out.same (HX.out.1.then HJ.out)) hs
                        obtain ⟨b4, o4, rfl, hb4, t0⟩ := ints_at (HKB.out.same (HX.out.1.then HJ.out)) hs
                        clear hs
                        have hj0 : (0 : Int) ≤ (j : Int) := Int.natCast_nonneg _
                        have hj1 : (j : Int) < (kinds.length : Int) := by omega
                        go_upto_region 30 with fail
                        go_quiet (fail)
                        go_wp2_with fail
                        go_round
                        case rel => exact ⟨j + 1, by omega, by go_num, hid (HJ.out.drewN _)⟩
                        case measure => simp [RowKit.intOf]; omega
                      · have hj1 : (kinds.length : Int) ≤ (j : Int) := by omega
                        go_wp2_with fail
                        go_round
                        case rel => exact ⟨k + 1, by omega, by go_num, hid (HKC.out.then HJ.out)⟩
                        case measure => simp [RowKit.intOf]; omega
                · have hke : k = pla.length := by omega
                  subst hke
                  obtain ⟨wo, ho⟩ : ∃ x, x = wr := ⟨_, rfl⟩
                  subst ho
                  have HI4 := HI
                  clear HI
                  have a4 : wo.cell? ⟨g2, 4, none⟩ = some (.slice P pla.length cP) := ((HZ1.out.keep HI4.out (fun f => f)).at_ 4).trans rfl
                  have q4 : wo.cell? ⟨g3, 4, none⟩ = some (.slice P2 pla.length cP2) := ((HZ2.out.keep HI4.out (fun f => f)).at_ 4).trans (by rw [HPL.out]; rfl)
                  have HZa := hid (HZ1.out.keep HI4.out (fun f => f))
                  have HZb := hid (HZ2.out.keep HI4.out (fun f => f))
                  clear a4 q4
                  go_upto_region 34 with fail
                  refine wp_region_held_drew (S := fun W => W.heap[g2]? = some (.cells #[.int .i64 cen, .slice D dis.length cD, .slice E edg.length cE, .slice U uni.length cU, .slice P pla.length cP, .int .i64 h0, .int .i64 h1, .int .i64 h2, .int .i64 h3, .int .i64 h4, .int .i64 h5, .int .i64 h6, .int .i64 h7, .int .i64 h8, .int .i64 h9] 30 (0, 0)) ∧ W.heap[g3]? = some (.cells #[.int .i64 cen, .slice D2 dis.length cD2, .slice E2 edg.length cE2, .slice U2 uni.length cU2, .slice P2 pla2.length cP2, .int .i64 h0, .int .i64 h1, .int .i64 h2, .int .i64 h3, .int .i64 h4, .int .i64 h5, .int .i64 h6, .int .i64 h7, .int .i64 h8, .int .i64 h9] 30 (0, 0))) (by kernel_rfl) ⟨HZa.out, HZb.out⟩ (fun hHeld => ?_)
                  refine takeL (i := 0) (by kernel_rfl) (by kernel_rfl) (by kernel_rfl) (fun c a d v w h => by cases d <;> exact h) (oi := ?_) ?_ _ (.tmp 2) ?_ ?_ (g2) ?_ 30 (#[.int .i64 cen, .slice D dis.length cD, .slice E edg.length cE, .slice U uni.length cU, .slice P pla.length cP, .int .i64 h0, .int .i64 h1, .int .i64 h2, .int .i64 h3, .int .i64 h4, .int .i64 h5, .int .i64 h6, .int .i64 h7, .int .i64 h8, .int .i64 h9]) (0, 0) _ (fun W h => h.1) Tryd.underlying30 rfl (by kernel_rfl) (by assumption) ?_
                  rotate_left 1
                  · (simp only [List.getElem?_toArray, List.getElem?_cons_zero]; rfl)
                  · rfl
                  · rfl
                  · rfl
                  try simp only [Act.put, List.setIfInBounds_toArray, List.set_cons_zero, List.set_cons_succ]
                  refine takeL (i := 2) (by kernel_rfl) (by kernel_rfl) (by kernel_rfl) (fun c a d v w h => by cases d <;> exact h) (oi := ?_) ?_ _ (.tmp 3) ?_ ?_ (g3) ?_ 30 (#[.int .i64 cen, .slice D2 dis.length cD2, .slice E2 edg.length cE2, .slice U2 uni.length cU2, .slice P2 pla2.length cP2, .int .i64 h0, .int .i64 h1, .int .i64 h2, .int .i64 h3, .int .i64 h4, .int .i64 h5, .int .i64 h6, .int .i64 h7, .int .i64 h8, .int .i64 h9]) (0, 0) _ (fun W h => h.2) Tryd.underlying30 rfl (by kernel_rfl) (by assumption) ?_
                  rotate_left 1
                  · (simp only [List.getElem?_toArray, List.getElem?_cons_succ, List.getElem?_cons_zero]; rfl)
                  · rfl
                  · rfl
                  · rfl
                  try simp only [Act.put, List.setIfInBounds_toArray, List.set_cons_zero, List.set_cons_succ]
                  have HKd := hid ((Keep.refl (fun _ => False) wo).drew)
                  clear hHeld
                  generalize wo.drew = wd at *
                  apply one_restN (F := fun g h W => Same w1 W ∧ Blk W g 2 (icellsC [h0, h1, h2, h3, h4, h5, h6, h7, h8, h9]).toArray ∧ Blk W h 2 (icellsC [h0, h1, h2, h3, h4, h5, h6, h7, h8, h9]).toArray)
                  case main =>
                    intro REST
                    refine wpAnyH_ready (rs := [1]) (by kernel_rfl) (by simp) ?_
                    refine AllReadyH.cons rfl (fun K hK => ?_) AllReadyH.nil
                    go_simp
                    (with_reducible refine (HN1.out _).mono ?_)
                    rintro e v1 ⟨g1, rfl, hb1, hk1⟩
                    have HK1 := hid (HKd.out.then hk1)
                    have hHa1 := HZa.out.keep HK1.out (fun f => f)
                    have hHb1 := HZb.out.keep HK1.out (fun f => f)
                    refine hK.out _ _ ⟨hHa1, hHb1⟩ (fun hHeld1 => ?_)
                    clear hK K
                    try simp only [Act.put, List.setIfInBounds_toArray, List.set_cons_zero, List.set_cons_succ]
                    refine wpAnyH_ready (rs := [3]) (by kernel_rfl) (by simp) ?_
                    refine AllReadyH.cons rfl (fun K hK => ?_) AllReadyH.nil
                    go_simp
                    (with_reducible refine (HN2.out _).mono ?_)
                    rintro e v2 ⟨g2x, rfl, hb2, hk2⟩
                    have HK2 := hid (HK1.out.then hk2)
                    have hHa2 := HZa.out.keep HK2.out (fun f => f)
                    have hHb2 := HZb.out.keep HK2.out (fun f => f)
                    refine hK.out _ _ ⟨hHa2, hHb2⟩ (fun hHeld2 => ?_)
                    clear hK K
                    try simp only [Act.put, List.setIfInBounds_toArray, List.set_cons_zero, List.set_cons_succ]
                    refine takeO (i := 4) (v := ?_) (by kernel_rfl) (by kernel_rfl) (by kernel_rfl) (fun c a d v w h => by cases d <;> exact h) (oi := ?_) ?_ ?_ (by assumption) ?_
                    rotate_left 2
                    · (simp only [List.getElem?_toArray, List.getElem?_cons_succ, List.getElem?_cons_zero]; rfl)
                    · (refine Or.inl ⟨by rfl, ?_⟩; intro w hSw; (try dsimp only at hSw); go_simp; try with_reducible rfl)
                    try simp only [Act.put, List.setIfInBounds_toArray, List.set_cons_zero, List.set_cons_succ]
                    refine takeO (i := 5) (v := ?_) (by kernel_rfl) (by kernel_rfl) (by kernel_rfl) (fun c a d v w h => by cases d <;> exact h) (oi := ?_) ?_ ?_ (by assumption) ?_
                    rotate_left 2
                    · (simp only [List.getElem?_toArray, List.getElem?_cons_succ, List.getElem?_cons_zero]; rfl)
                    · (refine Or.inl ⟨by rfl, ?_⟩; intro w hSw; (try dsimp only at hSw); go_simp; try with_reducible rfl)
                    try simp only [Act.put, List.setIfInBounds_toArray, List.set_cons_zero, List.set_cons_succ]
                    refine wpAnyH_done (by kernel_rfl) ?_ _
                    exact REST g1 g2x _ ⟨HI4.out.then HK2.out, hb1.keep hk2 (fun f => f), hb2⟩
                  case rest =>
                    intro ga gb W7 hF
                    have HF := hid hF
                    clear hF HKd HZa HZb
                    go_wp2_with fail
                    go_loopw [172] (fun i wr => ∃ k : Nat, k ≤ 10 ∧ i = .int .i64 k ∧ Hid (Same W7 wr)) (fun i _ => 10 - (RowKit.intOf i).toNat)
                    case atStart => exact ⟨0, by omega, rfl, hid (Keep.refl _ _)⟩
                    case round =>
                      obtain ⟨k, hk, rfl, HI⟩ := hrel
                      by_cases hkn : k < 10
                      · obtain ⟨v, hv⟩ := get_some (l := [h0, h1, h2, h3, h4, h5, h6, h7, h8, h9]) (k := k) hkn
                        have x0 : wr.cell? ⟨ga, k, none⟩ = some (.int .i64 v) := ((HF.out.2.1.keep HI.out (fun f => f)).at_ k).trans (by rw [List.getElem?_toArray, icellsC, List.getElem?_map, hv]; rfl)
                        have y0 : wr.cell? ⟨gb, k, none⟩ = some (.int .i64 v) := ((HF.out.2.2.keep HI.out (fun f => f)).at_ k).trans (by rw [List.getElem?_toArray, icellsC, List.getElem?_map, hv]; rfl)
                        clear hv
                        have hk0 : (0 : Int) ≤ (k : Int) := Int.natCast_nonneg _
                        have hk1 : (k : Int) < 10 := by omega
                        go_upto_region 38 with fail
                        go_quiet (fail)
                        go_wp2_with fail
                        go_round
                        case rel => exact ⟨k + 1, by omega, by go_num, hid (HI.out.drewN _)⟩
                        case measure => simp [RowKit.intOf]; omega
                      · have hke : (10 : Int) ≤ (k : Int) := by omega
                        go_wp2_with fail
                        go_ret
                        exact ⟨rfl, HKK.out.then (HF.out.1.then HI.out)⟩
end Go.Proofs.YtnejacmmbfeneaaDoor

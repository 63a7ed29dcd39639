import Derived.Test.YtmkcphhgimlkgaaDiB
import Derived.Test.YtmkcphhgimlkgaaLeQ
namespace Go.Proofs.Ytmkcphhgimlkgaa
open Go.RowKit

/-! ## Sixteen cells -/
structure C16 (W : World) (g : Nat) (v0 v1 v2 v3 v4 v5 v6 v7 v8 v9 v10 v11 v12 v13 v14 v15 : Value) : Prop where
  c0 : W.cell? ⟨g, 0, none⟩ = some v0
  c1 : W.cell? ⟨g, 1, none⟩ = some v1
  c2 : W.cell? ⟨g, 2, none⟩ = some v2
  c3 : W.cell? ⟨g, 3, none⟩ = some v3
  c4 : W.cell? ⟨g, 4, none⟩ = some v4
  c5 : W.cell? ⟨g, 5, none⟩ = some v5
  c6 : W.cell? ⟨g, 6, none⟩ = some v6
  c7 : W.cell? ⟨g, 7, none⟩ = some v7
  c8 : W.cell? ⟨g, 8, none⟩ = some v8
  c9 : W.cell? ⟨g, 9, none⟩ = some v9
  c10 : W.cell? ⟨g, 10, none⟩ = some v10
  c11 : W.cell? ⟨g, 11, none⟩ = some v11
  c12 : W.cell? ⟨g, 12, none⟩ = some v12
  c13 : W.cell? ⟨g, 13, none⟩ = some v13
  c14 : W.cell? ⟨g, 14, none⟩ = some v14
  c15 : W.cell? ⟨g, 15, none⟩ = some v15
  f0 : W.frozen? ⟨g, 0, none⟩ = false
  f1 : W.frozen? ⟨g, 1, none⟩ = false
  f2 : W.frozen? ⟨g, 2, none⟩ = false
  f3 : W.frozen? ⟨g, 3, none⟩ = false
  f4 : W.frozen? ⟨g, 4, none⟩ = false
  f5 : W.frozen? ⟨g, 5, none⟩ = false
  f6 : W.frozen? ⟨g, 6, none⟩ = false
  f7 : W.frozen? ⟨g, 7, none⟩ = false
  f8 : W.frozen? ⟨g, 8, none⟩ = false
  f9 : W.frozen? ⟨g, 9, none⟩ = false
  f10 : W.frozen? ⟨g, 10, none⟩ = false
  f11 : W.frozen? ⟨g, 11, none⟩ = false
  f12 : W.frozen? ⟨g, 12, none⟩ = false
  f13 : W.frozen? ⟨g, 13, none⟩ = false
  f14 : W.frozen? ⟨g, 14, none⟩ = false
  f15 : W.frozen? ⟨g, 15, none⟩ = false
  lt : g < W.heap.size
theorem c16 {W : World} {g : Nat} {t : TypeId} {v0 v1 v2 v3 v4 v5 v6 v7 v8 v9 v10 v11 v12 v13 v14 v15 : Value} (h : Blk W g t #[v0, v1, v2, v3, v4, v5, v6, v7, v8, v9, v10, v11, v12, v13, v14, v15]) : C16 W g v0 v1 v2 v3 v4 v5 v6 v7 v8 v9 v10 v11 v12 v13 v14 v15 :=
  ⟨h.at_ 0, h.at_ 1, h.at_ 2, h.at_ 3, h.at_ 4, h.at_ 5, h.at_ 6, h.at_ 7, h.at_ 8, h.at_ 9, h.at_ 10, h.at_ 11, h.at_ 12, h.at_ 13, h.at_ 14, h.at_ 15, h.free 0, h.free 1, h.free 2, h.free 3, h.free 4, h.free 5, h.free 6, h.free 7, h.free 8, h.free 9, h.free 10, h.free 11, h.free 12, h.free 13, h.free 14, h.free 15, h.lt⟩
theorem Blk.put16 {w : World} {g : Nat} {t : TypeId} {a0 a1 a2 a3 a4 a5 a6 a7 a8 a9 a10 a11 a12 a13 a14 a15 : Value} (h : Blk w g t #[a0, a1, a2, a3, a4, a5, a6, a7, a8, a9, a10, a11, a12, a13, a14, a15]) (v0 v1 v2 v3 v4 v5 v6 v7 v8 v9 v10 v11 v12 v13 v14 v15 : Value) :
    Blk (((((((((((((((((w.setCell ⟨g, 0, none⟩ v0).setCell ⟨g, 1, none⟩ v1).setCell ⟨g, 2, none⟩ v2).setCell ⟨g, 3, none⟩ v3).setCell ⟨g, 4, none⟩ v4).setCell ⟨g, 5, none⟩ v5).setCell ⟨g, 6, none⟩ v6).setCell ⟨g, 7, none⟩ v7).setCell ⟨g, 8, none⟩ v8).setCell ⟨g, 9, none⟩ v9).setCell ⟨g, 10, none⟩ v10).setCell ⟨g, 11, none⟩ v11).setCell ⟨g, 12, none⟩ v12).setCell ⟨g, 13, none⟩ v13).setCell ⟨g, 14, none⟩ v14).setCell ⟨g, 15, none⟩ v15)) g t #[v0, v1, v2, v3, v4, v5, v6, v7, v8, v9, v10, v11, v12, v13, v14, v15] ∧ Keep (· = g) w (((((((((((((((((w.setCell ⟨g, 0, none⟩ v0).setCell ⟨g, 1, none⟩ v1).setCell ⟨g, 2, none⟩ v2).setCell ⟨g, 3, none⟩ v3).setCell ⟨g, 4, none⟩ v4).setCell ⟨g, 5, none⟩ v5).setCell ⟨g, 6, none⟩ v6).setCell ⟨g, 7, none⟩ v7).setCell ⟨g, 8, none⟩ v8).setCell ⟨g, 9, none⟩ v9).setCell ⟨g, 10, none⟩ v10).setCell ⟨g, 11, none⟩ v11).setCell ⟨g, 12, none⟩ v12).setCell ⟨g, 13, none⟩ v13).setCell ⟨g, 14, none⟩ v14).setCell ⟨g, 15, none⟩ v15)) :=
  ⟨by
    have h8 := (((((((((((((((h.put 0 v0).put 1 v1).put 2 v2).put 3 v3).put 4 v4).put 5 v5).put 6 v6).put 7 v7).put 8 v8).put 9 v9).put 10 v10).put 11 v11).put 12 v12).put 13 v13).put 14 v14).put 15 v15
    simp only [List.setIfInBounds_toArray, List.set_cons_zero, List.set_cons_succ] at h8
    exact h8, ((((((((((((((((Keep.refl _ w).put 0 v0).put 1 v1).put 2 v2).put 3 v3).put 4 v4).put 5 v5).put 6 v6).put 7 v7).put 8 v8).put 9 v9).put 10 v10).put 11 v11).put 12 v12).put 13 v13).put 14 v14).put 15 v15⟩
/-- the reference's map -/
def map16 (c : CF) (X : Option Addr) (m cx : Nat) : List Value := [.int .i64 c.cen, .slice c.D c.dis.length c.cD, .slice c.E c.edg.length c.cE, .slice c.U c.uni.length c.cU, .slice c.P c.pla.length c.cP,
  .int .i64 c.h0, .int .i64 c.h1, .int .i64 c.h2, .int .i64 c.h3, .int .i64 c.h4, .int .i64 c.h5, .int .i64 c.h6, .int .i64 c.h7, .int .i64 c.h8, .int .i64 c.h9, .slice X m cx]
def zero16 : List Value := [.int .i64 0, .slice none 0 0, .slice none 0 0, .slice none 0 0, .slice none 0 0, .int .i64 0, .int .i64 0, .int .i64 0, .int .i64 0, .int .i64 0, .int .i64 0, .int .i64 0, .int .i64 0, .int .i64 0, .int .i64 0, .slice none 0 0]
def RDNewPost (w : World) (c : CF) (e : Ending) (w' : World) : Prop :=
  (vnum c = 0 ∧ ∃ X cx, e = .returned (.tuple #[.agg (map16 c X (initL c.cen.toNat c.h3).length cx).toArray, .int .i64 0]) ∧ Th w' (· < w.heap.size) X (initL c.cen.toNat c.h3) ∧ Same w w') ∨
  (vnum c ≠ 0 ∧ e = .returned (.tuple #[.agg zero16.toArray, .int .i64 1]) ∧ Same w w')
set_option maxRecDepth 100000 in
set_option maxHeartbeats 8000000 in
theorem rdnew_ok (w : World) (c : CF) (hm : CM w c) (hv : vnum c = 0) : Calls Try.prog 31 #[.agg c.cells.toArray] w (RDNewPost w c) := by
  have hb0 := (Blk.made w 27 c.cells.toArray).alloc (.cells zero16.toArray 36)
  have hz0 := Blk.made (w.alloc (.cells c.cells.toArray 27)) 36 zero16.toArray
  rw [World.size_alloc] at hz0
  have hw0 := ((Keep.refl (fun _ => False) w).alloc (.cells c.cells.toArray 27)).alloc (.cells zero16.toArray 36)
  have HB := hid (fun W (hk : Same ((w.alloc (.cells c.cells.toArray 27)).alloc (.cells zero16.toArray 36)) W) => cfc (hb0.keep (S := fun _ => False) hk (fun f => f)))
  have HZ := hid (fun W (hk : Same ((w.alloc (.cells c.cells.toArray 27)).alloc (.cells zero16.toArray 36)) W) => (hz0.keep (S := fun _ => False) hk (fun f => f)))
  have HW := hid hw0
  have HVA := hid (right_any ((w.alloc (.cells c.cells.toArray 27)).alloc (.cells zero16.toArray 36)) c (hm.same hw0))
  have hb1 := cfc hb0
  clear hb0 hw0 hz0
  unfold RDNewPost
  generalize hvn : vnum c = vn at *
  subst hv
  have hdu := vnum_dur hvn
  obtain ⟨⟨n1, n9, d1, d2⟩, _⟩ := vnum_all hvn
  have hdis := hm.dis
  clear hvn hm
  obtain ⟨cen, D, cD, dis, E, cE, edg, U, cU, uni, P, cP, pla, h0, h1, h2, h3, h4, h5, h6, h7, h8, h9⟩ := c
  simp only at n1 n9 d1 d2 hdu hdis
  obtain ⟨n, rfl⟩ := Int.eq_ofNat_of_zero_le (show 0 ≤ cen by omega)
  obtain ⟨b, off, rfl, hlb, _, _⟩ := hdis.at_ (show 0 < dis.length by omega)
  have HDU := hid hdu
  obtain ⟨c0, c1, c2, c3, c4, c5, c6, c7, c8, c9, c10, c11, c12, c13, c14, hg⟩ := hb1
  simp only [CF.cells, map16, zero16] at *
  go_enter Try.func31, Try.ntmps31
  go_wp2_with fail
  (with_reducible refine HVA.out.mono ?_)
  rintro e w1 ⟨rfl, hs1⟩
  have HS1 := hid hs1
  have HK1 := hid (HW.out.then hs1)
  have HHB := hid (HB.out _ hs1)
  have HB1 := hid (fun W (hk : Same w1 W) => HB.out W (hs1.then hk))
  have HZ1 := hid (fun W (hk : Same w1 W) => HZ.out W (hs1.then hk))
  clear c0 c1 c2 c3 c4 c5 c6 c7 c8 c9 c10 c11 c12 c13 c14
  obtain ⟨c0, c1, c2, c3, c4, c5, c6, c7, c8, c9, c10, c11, c12, c13, c14, hg1⟩ := HHB.out
  clear hs1
  go_wp2_with fail
  go_loopw [4, 5] (fun v i wr => ∃ (k : Nat) (B : Option Addr) (d : Nat), k ≤ n ∧ i = .int .i64 k ∧ v = .slice B k d ∧ Hid (Own wr w1.heap.size 3 1 (.slice B k d) k (icellsC (cents k)) ∧ Same w1 wr)) (fun _ i _ => n - (intOf i).toNat)
  case atStart => exact ⟨0, none, 0, by omega, rfl, rfl, hid ⟨Own.nil _ _ _ _, Keep.refl _ _⟩⟩
  case round =>
    obtain ⟨k, B, d, hk, rfl, rfl, HI⟩ := hrel
    have HHB2 := hid (HB1.out _ HI.out.2)
    clear c0 c1 c2 c3 c4 c5 c6 c7 c8 c9 c10 c11 c12 c13 c14
    obtain ⟨c0, c1, c2, c3, c4, c5, c6, c7, c8, c9, c10, c11, c12, c13, c14, hg1⟩ := HHB2.out
    simp only at c0 c1 c2 c3 c4 c5 c6 c7 c8 c9 c10 c11 c12 c13 c14
    by_cases hlt : k < n
    · have hk1 : (k : Int) < (n : Int) := by omega
      have hsz := HI.out.2.size
      go_wp2_with (
        at_builtin
        refine E24.law (.tmp 18) (.tmp 20) (.slice B k d) (some ⟨wr.heap.size, 0, none⟩) 1 1 rfl rfl rfl rfl w1.heap.size k _ [.int .i64 k] (HI.out.1.keep ((Keep.refl (fun _ => False) wr).alloc _) (fun _ _ _ f => f)) rfl
          (fun _ => ⟨_, rfl, src_new rfl⟩) (by intro u hu; simp at hu; subst hu; rfl) (by omega) (by unfold maxLen; omega) (by simp; omega) ?_
        intro A' c' w3 hown hg)
      have HOW := hid hown
      have HG := hid hg
      clear hown hg
      go_roundw
      case rel =>
        refine ⟨k + 1, A', c', by omega, by go_num, rfl, hid ⟨?_, (HI.out.2.alloc _).grown HG.out (fun g e hl => by have := HI.out.1.block g e; omega)⟩⟩
        rw [cents_snoc]
        simpa [icellsC] using HOW.out
      case measure => simp [intOf]; omega
    · obtain rfl : k = n := by omega
      have hN := rnew_any wr B k d (cents k) h3 (fun _ => False) (by
        have := HI.out.1.sl (Av := fun _ => False) (fun _ _ f => f)
        simpa [icellsC] using this) (by omega) (by omega) HDU.out
      unfold RNewPost at hN
      rw [cents_len] at hN
      have HN := hid hN
      clear hN
      have HK2 := hid (HK1.out.then HI.out.2)
      go_wp2_with fail
      (with_reducible refine HN.out.mono ?_)
      rintro e w3 (⟨_, X, cx, rfl, hT, hk3⟩ | ⟨hno, _⟩)
      rotate_left 1
      · exact absurd (cents_vH (n := k) (by omega)) (by rw [hno]; decide)
      · have HT := hid hT
        have HK3 := hid (HK2.out.then hk3)
        have HHB3 := hid (HB1.out _ (HI.out.2.then hk3))
        have hZ3 := HZ1.out _ (HI.out.2.then hk3)
        have HZ3 := hid hZ3
        have HQ := hid (c16 hZ3)
        clear hZ3
        clear c0 c1 c2 c3 c4 c5 c6 c7 c8 c9 c10 c11 c12 c13 c14 hg1 hT hk3
        obtain ⟨c0, c1, c2, c3, c4, c5, c6, c7, c8, c9, c10, c11, c12, c13, c14, hg1⟩ := HHB3.out
        simp only at c0 c1 c2 c3 c4 c5 c6 c7 c8 c9 c10 c11 c12 c13 c14
        obtain ⟨z0, z1, z2, z3, z4, z5, z6, z7, z8, z9, z10, z11, z12, z13, z14, z15, f0, f1, f2, f3, f4, f5, f6, f7, f8, f9, f10, f11, f12, f13, f14, f15, hg2⟩ := HQ.out
        go_wp2_with fail
        have HP := hid (Blk.put16 HZ3.out (.int .i64 k) (.slice (some ⟨b, off, none⟩) dis.length cD) (.slice E edg.length cE) (.slice U uni.length cU) (.slice P pla.length cP) (.int .i64 h0) (.int .i64 h1) (.int .i64 h2) (.int .i64 h3) (.int .i64 h4) (.int .i64 h5) (.int .i64 h6) (.int .i64 h7) (.int .i64 h8) (.int .i64 h9) (.slice X k cx))
        generalize ((((((((((((((((w3.setCell ⟨w.heap.size + 1, 0, none⟩ (.int .i64 k)).setCell ⟨w.heap.size + 1, 1, none⟩ (.slice (some ⟨b, off, none⟩) dis.length cD)).setCell ⟨w.heap.size + 1, 2, none⟩ (.slice E edg.length cE)).setCell ⟨w.heap.size + 1, 3, none⟩ (.slice U uni.length cU)).setCell ⟨w.heap.size + 1, 4, none⟩ (.slice P pla.length cP)).setCell ⟨w.heap.size + 1, 5, none⟩ (.int .i64 h0)).setCell ⟨w.heap.size + 1, 6, none⟩ (.int .i64 h1)).setCell ⟨w.heap.size + 1, 7, none⟩ (.int .i64 h2)).setCell ⟨w.heap.size + 1, 8, none⟩ (.int .i64 h3)).setCell ⟨w.heap.size + 1, 9, none⟩ (.int .i64 h4)).setCell ⟨w.heap.size + 1, 10, none⟩ (.int .i64 h5)).setCell ⟨w.heap.size + 1, 11, none⟩ (.int .i64 h6)).setCell ⟨w.heap.size + 1, 12, none⟩ (.int .i64 h7)).setCell ⟨w.heap.size + 1, 13, none⟩ (.int .i64 h8)).setCell ⟨w.heap.size + 1, 14, none⟩ (.int .i64 h9)).setCell ⟨w.heap.size + 1, 15, none⟩ (.slice X k cx)) = W9 at *
        have r0 := HP.out.1.at_ 0
        have r1 := HP.out.1.at_ 1
        have r2 := HP.out.1.at_ 2
        have r3 := HP.out.1.at_ 3
        have r4 := HP.out.1.at_ 4
        have r5 := HP.out.1.at_ 5
        have r6 := HP.out.1.at_ 6
        have r7 := HP.out.1.at_ 7
        have r8 := HP.out.1.at_ 8
        have r9 := HP.out.1.at_ 9
        have r10 := HP.out.1.at_ 10
        have r11 := HP.out.1.at_ 11
        have r12 := HP.out.1.at_ 12
        have r13 := HP.out.1.at_ 13
        have r14 := HP.out.1.at_ 14
        have r15 := HP.out.1.at_ 15
        refine bodyPost_ret (v := .tuple #[.agg #[.int .i64 k, .slice (some ⟨b, off, none⟩) dis.length cD, .slice E edg.length cE, .slice U uni.length cU, .slice P pla.length cP, .int .i64 h0, .int .i64 h1, .int .i64 h2, .int .i64 h3, .int .i64 h4, .int .i64 h5, .int .i64 h6, .int .i64 h7, .int .i64 h8, .int .i64 h9, .slice X k cx], .int .i64 0]) (by simp [results, Try.results31, go_sem, r0, r1, r2, r3, r4, r5, r6, r7, r8, r9, r10, r11, r12, r13, r14, r15]) rfl ?_
        have hsz := HK2.out.size
        have hz1 := HZ3.out.lt
        have hz2 := (HI.out.2).size
        have hz3 : w.heap.size + 1 < wr.heap.size := by have h1 := (HZ1.out _ (Keep.refl _ _)).lt; omega
        have hk9 : Keep (· = w.heap.size + 1) w3 W9 := HP.out.2
        refine .inl ⟨trivial, X, cx, by rw [Int.toNat_natCast, init_len], ?_, HK3.out.trans hk9 (fun i hi e => by have e2 : i = w.heap.size + 1 := e; omega)⟩
        rw [Int.toNat_natCast]
        exact (HT.out.keep hk9 (fun i _ e => by have e2 : i = w.heap.size + 1 := e; show i < wr.heap.size; omega)).wide (fun i _ h => by omega)
set_option maxRecDepth 100000 in
set_option maxHeartbeats 8000000 in
theorem rdnew_bad (w : World) (c : CF) (hm : CM w c) (hv : ¬ vnum c = 0) : Calls Try.prog 31 #[.agg c.cells.toArray] w (RDNewPost w c) := by
  have hb0 := (Blk.made w 27 c.cells.toArray).alloc (.cells zero16.toArray 36)
  have hz0 := Blk.made (w.alloc (.cells c.cells.toArray 27)) 36 zero16.toArray
  rw [World.size_alloc] at hz0
  have hw0 := ((Keep.refl (fun _ => False) w).alloc (.cells c.cells.toArray 27)).alloc (.cells zero16.toArray 36)
  have HB := hid (fun W (hk : Same ((w.alloc (.cells c.cells.toArray 27)).alloc (.cells zero16.toArray 36)) W) => cfc (hb0.keep (S := fun _ => False) hk (fun f => f)))
  have HZ := hid (fun W (hk : Same ((w.alloc (.cells c.cells.toArray 27)).alloc (.cells zero16.toArray 36)) W) => (hz0.keep (S := fun _ => False) hk (fun f => f)))
  have HW := hid hw0
  have HVA := hid (right_any ((w.alloc (.cells c.cells.toArray 27)).alloc (.cells zero16.toArray 36)) c (hm.same hw0))
  have hb1 := cfc hb0
  clear hb0 hw0 hz0
  unfold RDNewPost
  generalize hvn : vnum c = vn at *
  have hvn2 : (vn != 0) = true := by simp [hv]
  have HNV := hid hv
  clear hv hvn hm
  obtain ⟨cen, D, cD, dis, E, cE, edg, U, cU, uni, P, cP, pla, h0, h1, h2, h3, h4, h5, h6, h7, h8, h9⟩ := c
  obtain ⟨c0, c1, c2, c3, c4, c5, c6, c7, c8, c9, c10, c11, c12, c13, c14, hg⟩ := hb1
  simp only [CF.cells, map16, zero16] at *
  go_enter Try.func31, Try.ntmps31
  go_wp2_with fail
  (with_reducible refine HVA.out.mono ?_)
  rintro e w1 ⟨rfl, hs1⟩
  have HK1 := hid (HW.out.then hs1)
  have hZ3 := HZ.out _ hs1
  have HZ3 := hid hZ3
  have HQ := hid (c16 hZ3)
  clear hs1 hZ3
  obtain ⟨z0, z1, z2, z3, z4, z5, z6, z7, z8, z9, z10, z11, z12, z13, z14, z15, f0, f1, f2, f3, f4, f5, f6, f7, f8, f9, f10, f11, f12, f13, f14, f15, hg2⟩ := HQ.out
  go_wp2_with fail
  have HP := hid (Blk.put16 HZ3.out (.int .i64 0) (.slice none 0 0) (.slice none 0 0) (.slice none 0 0) (.slice none 0 0) (.int .i64 0) (.int .i64 0) (.int .i64 0) (.int .i64 0) (.int .i64 0) (.int .i64 0) (.int .i64 0) (.int .i64 0) (.int .i64 0) (.int .i64 0) (.slice none 0 0))
  generalize ((((((((((((((((w1.setCell ⟨w.heap.size + 1, 0, none⟩ (.int .i64 0)).setCell ⟨w.heap.size + 1, 1, none⟩ (.slice none 0 0)).setCell ⟨w.heap.size + 1, 2, none⟩ (.slice none 0 0)).setCell ⟨w.heap.size + 1, 3, none⟩ (.slice none 0 0)).setCell ⟨w.heap.size + 1, 4, none⟩ (.slice none 0 0)).setCell ⟨w.heap.size + 1, 5, none⟩ (.int .i64 0)).setCell ⟨w.heap.size + 1, 6, none⟩ (.int .i64 0)).setCell ⟨w.heap.size + 1, 7, none⟩ (.int .i64 0)).setCell ⟨w.heap.size + 1, 8, none⟩ (.int .i64 0)).setCell ⟨w.heap.size + 1, 9, none⟩ (.int .i64 0)).setCell ⟨w.heap.size + 1, 10, none⟩ (.int .i64 0)).setCell ⟨w.heap.size + 1, 11, none⟩ (.int .i64 0)).setCell ⟨w.heap.size + 1, 12, none⟩ (.int .i64 0)).setCell ⟨w.heap.size + 1, 13, none⟩ (.int .i64 0)).setCell ⟨w.heap.size + 1, 14, none⟩ (.int .i64 0)).setCell ⟨w.heap.size + 1, 15, none⟩ (.slice none 0 0)) = W9 at *
  have r0 := HP.out.1.at_ 0
  have r1 := HP.out.1.at_ 1
  have r2 := HP.out.1.at_ 2
  have r3 := HP.out.1.at_ 3
  have r4 := HP.out.1.at_ 4
  have r5 := HP.out.1.at_ 5
  have r6 := HP.out.1.at_ 6
  have r7 := HP.out.1.at_ 7
  have r8 := HP.out.1.at_ 8
  have r9 := HP.out.1.at_ 9
  have r10 := HP.out.1.at_ 10
  have r11 := HP.out.1.at_ 11
  have r12 := HP.out.1.at_ 12
  have r13 := HP.out.1.at_ 13
  have r14 := HP.out.1.at_ 14
  have r15 := HP.out.1.at_ 15
  refine bodyPost_ret (v := .tuple #[.agg #[.int .i64 0, .slice none 0 0, .slice none 0 0, .slice none 0 0, .slice none 0 0, .int .i64 0, .int .i64 0, .int .i64 0, .int .i64 0, .int .i64 0, .int .i64 0, .int .i64 0, .int .i64 0, .int .i64 0, .int .i64 0, .slice none 0 0], .int .i64 1]) (by simp [results, Try.results31, go_sem, r0, r1, r2, r3, r4, r5, r6, r7, r8, r9, r10, r11, r12, r13, r14, r15]) rfl ?_
  have hk9 : Keep (· = w.heap.size + 1) w1 W9 := HP.out.2
  exact .inr ⟨HNV.out, rfl, HK1.out.trans hk9 (fun i hi e => by have e2 : i = w.heap.size + 1 := e; omega)⟩
theorem rdnew_any (w : World) (c : CF) (hm : CM w c) : Calls Try.prog 31 #[.agg c.cells.toArray] w (RDNewPost w c) := by
  by_cases hv : vnum c = 0
  · exact rdnew_ok w c hm hv
  · exact rdnew_bad w c hm hv

end Go.Proofs.Ytmkcphhgimlkgaa

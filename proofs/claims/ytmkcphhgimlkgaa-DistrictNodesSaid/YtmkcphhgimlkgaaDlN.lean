import Derived.Test.YtmkcphhgimlkgaaDiK
import Derived.Test.YtmkcphhgimlkgaaDlNa
import Derived.Deep.CutRange
import Derived.Deep.RegionHeld3
namespace Go.Proofs.Ytmkcphhgimlkgaa
open Go.RowKit

theorem sumD_mono (l : List Int) {a b : Nat} (h : a ≤ b) : sumD l a ≤ sumD l b := by
  induction b with
  | zero => obtain rfl : a = 0 := by omega
            exact Nat.le_refl _
  | succ b ih =>
    by_cases h1 : a = b + 1
    · subst h1; exact Nat.le_refl _
    · have := ih (by omega)
      simp only [sumD]; omega
set_option maxRecDepth 100000 in
set_option maxHeartbeats 16000000 in
theorem nodes_walk (w : World) (c : CF) (hm : CM w c) (hf : Few c) (n : Int) :
    Calls Try.prog 8 #[.agg c.cells.toArray, .int .i64 n] w fun e w' => e = .returned (.bool true) ∧ Same w w' := by
  have hb0 := Blk.made w 27 c.cells.toArray
  have hw0 : Same w (w.alloc (.cells c.cells.toArray 27)) := (Keep.refl _ _).alloc _
  generalize hw1 : w.alloc (.cells c.cells.toArray 27) = w1 at *
  have HB := hid (fun W (hk : Same w1 W) => cfc (hb0.keep (S := fun _ => False) hk (fun f => f)))
  have HW := hid hw0
  have HPL : Hid (Calls Try.prog 10 #[.agg #[.int .i64 c.cen, .slice c.D c.dis.length c.cD, .slice c.E c.edg.length c.cE, .slice c.U c.uni.length c.cU, .slice c.P c.pla.length c.cP, .int .i64 c.h0, .int .i64 c.h1, .int .i64 c.h2, .int .i64 c.h3, .int .i64 c.h4, .int .i64 c.h5, .int .i64 c.h6, .int .i64 c.h7, .int .i64 c.h8, .int .i64 c.h9, .slice none 0 0]] w1 (PlayPost w1 c [])) := hid (played_any w1 c (hm.same hw0) hf none 0 [] (Sl.nil _ _ _ _) (by simp))
  unfold PlayPost at HPL
  have HAW := hid awake_any
  have HCM := hid hm
  have hbx := cfc hb0
  obtain ⟨c0, c1, c2, c3, c4, c5, c6, c7, c8, c9, c10, c11, c12, c13, c14, hg⟩ := hbx
  clear hb0 hw0 hm hf
  go_enter Try.func8, Try.ntmps8
  go_upto_region 1 with fail
  try simp only [CF.cells] at hw1
  try rw [hw1]
  go_wp2_with fail
  (with_reducible refine HPL.out.mono ?_)
  rintro e w2 (⟨rfl, hk2⟩ | ⟨hv, ha60, hd60, mb, tb, sb, A, cp, X, cx, rfl, hP, hk2⟩)
  · have HK2 := hid (HW.out.then hk2)
    clear hk2 c0 c1 c2 c3 c4 c5 c6 c7 c8 c9 c10 c11 c12 c13 c14 hg
    go_upto_region 2 with (refine wpList_store_row rfl _ (.tmp 6) (.tmp 19) rfl w2.heap.size zero16.toArray rfl rfl _ _ (Blk.made w2 36 zero16.toArray) (by kernel_rfl) rfl (one_toArray zero16_one) ?_)
    have hK : Same w2 ((w2.alloc (.cells zero16.toArray 36)).setRow w2.heap.size zero16.toArray) := ((Keep.refl _ w2).alloc _).trans (Keep.row _ _ _) (fun i hi e => by have e2 : i = w2.heap.size := e; omega)
    simp only [zero16] at hK ⊢
    generalize ((w2.alloc (.cells #[.int .i64 0, .slice none 0 0, .slice none 0 0, .slice none 0 0, .slice none 0 0, .int .i64 0, .int .i64 0, .int .i64 0, .int .i64 0, .int .i64 0, .int .i64 0, .int .i64 0, .int .i64 0, .int .i64 0, .int .i64 0, .slice none 0 0] 36)).setRow w2.heap.size #[.int .i64 0, .slice none 0 0, .slice none 0 0, .slice none 0 0, .slice none 0 0, .int .i64 0, .int .i64 0, .int .i64 0, .int .i64 0, .int .i64 0, .int .i64 0, .int .i64 0, .int .i64 0, .int .i64 0, .int .i64 0, .slice none 0 0]) = w3 at *
    have HK3 := hid (HK2.out.then hK)
    clear hK
    go_wp2_with fail
    (with_reducible refine (HAW.out _).mono ?_)
    rintro e w4 ⟨rfl, hk4⟩
    have HK4 := hid (HK3.out.then hk4)
    clear hk4
    go_wp2_with fail
    go_ret
    exact ⟨rfl, HK4.out⟩
  · have HK2 := hid (HW.out.then hk2)
    have HK12 := hid hk2
    have HL := hid (show w.heap.size ≤ mb ∧ w.heap.size ≤ tb ∧ w.heap.size ≤ sb from ⟨Nat.le_trans HW.out.size hP.mb, Nat.le_trans HW.out.size hP.tb, Nat.le_trans HW.out.size hP.sb⟩)
    have hd2 := hP.dm
    have ht2 := hP.th
    clear hk2 hP c0 c1 c2 c3 c4 c5 c6 c7 c8 c9 c10 c11 c12 c13 c14 hg ha60
    obtain ⟨c0, c1, c2, c3, c4, c5, c6, c7, c8, c9, c10, c11, c12, c13, c14, hg⟩ := HB.out w2 HK12.out
    have HINI := hid hv
    clear hv
    generalize hLe : runD c [] (initL c.cen.toNat c.h3) = L at *
    have HLE := hid hLe
    clear hLe
    go_upto_region 2 with (refine wpList_store_row rfl _ (.tmp 6) (.tmp 19) rfl w2.heap.size (map16 c X L.length cx).toArray rfl rfl _ _ (Blk.made w2 36 zero16.toArray) (by kernel_rfl) rfl (one_toArray (map16_one _ _ _ _)) ?_)
    have hB3 := (Blk.made w2 36 zero16.toArray).row (map16 c X L.length cx).toArray
    have hK : Same w2 ((w2.alloc (.cells zero16.toArray 36)).setRow w2.heap.size (map16 c X L.length cx).toArray) := ((Keep.refl _ w2).alloc _).trans (Keep.row _ _ _) (fun i hi e => by have e2 : i = w2.heap.size := e; omega)
    simp only [zero16] at hB3 hK ⊢
    generalize ((w2.alloc (.cells #[.int .i64 0, .slice none 0 0, .slice none 0 0, .slice none 0 0, .slice none 0 0, .int .i64 0, .int .i64 0, .int .i64 0, .int .i64 0, .int .i64 0, .int .i64 0, .int .i64 0, .int .i64 0, .int .i64 0, .int .i64 0, .slice none 0 0] 36)).setRow w2.heap.size (map16 c X L.length cx).toArray) = w3 at *
    have HB3 := hid hB3
    have HK3 := hid (HK2.out.then hK)
    have HBX := hid (fun W (hk : Same w3 W) => HB.out W ((HK12.out.then hK).then hk))
    have HD3 := hid (hd2.same hK)
    have HT3 := hid (ht2.same hK)
    have hs9 := hd2.ok.small
    clear hB3 hK hd2 ht2 c0 c1 c2 c3 c4 c5 c6 c7 c8 c9 c10 c11 c12 c13 c14 hg
    have hvn := vnum_all HINI.out
    obtain ⟨⟨n1, n9, _, _⟩, hdis, _⟩ := hvn
    obtain ⟨N, hN⟩ : ∃ N : Nat, c.cen = (N : Int) := ⟨c.cen.toNat, by omega⟩
    rw [hN] at n1 n9
    have HCN := hid hN
    have hall : ∀ a ∈ c.dis, 0 ≤ a ∧ a < (N : Int) := by
      intro a ha
      rw [disB, List.all_eq_true] at hdis
      have := inB_in (hdis a ha)
      rw [hN] at this
      exact this
    have HALL := hid hall
    have HSUM := hid (sumD_all hall)
    have HMON := hid (fun j (hj : j ≤ N) => (show sumD c.dis j ≤ 60 from Nat.le_trans (sumD_mono c.dis hj) (by rw [sumD_all hall]; exact hd60)))
    have hd4 : c.dis.length ≤ 4096 := by omega
    have HND := hid (fun W (hk : Same w3 W) d => dnodes_any W mb tb sb A cp c L (HD3.out.same hk) hd4 d)
    have HRN := hid (fun W (hk : Same w3 W) d => rnodes_any W c ((HCM.out.same (HK3.out.then hk)).dis) hd4 X L.length cx d)
    unfold LsPost at HND HRN
    have HHOM := hid (fun W (hk : Same w3 W) d => home_any W mb tb sb A cp c L (HD3.out.same hk) d)
    have HX := hid (fun W (hk : Same w3 W) => HB3.out.keep hk (fun f => f))
    clear hN hdis hall
    go_wp2_with fail
    go_loopw [8, 9] (fun m i wr => ∃ k : Nat, k ≤ N + 2 ∧ i = .int .i64 ((k : Int) - 1) ∧ m = .int .i64 (sumD c.dis (min (k - 1) N) : Nat) ∧ Hid (Same w3 wr)) (fun _ i _ => ((N : Int) + 1 - RowKit.intOf i).toNat)
    case atStart => exact ⟨0, by omega, rfl, by simp [sumD], hid (Keep.refl _ _)⟩
    case round =>
      obtain ⟨k, hk, rfl, rfl, HI⟩ := hrel
      have c0 := (HBX.out wr HI.out).c0
      rw [HCN.out] at c0
      by_cases hlt : (k : Int) - 1 ≤ N
      · have HXr := hid (HX.out wr HI.out)
        obtain ⟨iv, hiv⟩ : ∃ iv : Int, iv = (k : Int) - 1 := ⟨_, rfl⟩
        rw [← hiv]
        have HIV := hid hiv
        obtain ⟨S0, hS0⟩ : ∃ S0 : Nat, S0 = sumD c.dis (min (k - 1) N) := ⟨_, rfl⟩
        rw [← hS0]
        have HS0 := hid hS0
        have hS60 : S0 ≤ 60 := by rw [hS0]; exact HMON.out _ (Nat.min_le_right _ _)
        have hkk : iv = -1 ∨ (0 ≤ iv ∧ iv < (N : Int)) ∨ (0 ≤ iv ∧ iv = (N : Int)) := by omega
        clear hS0 hiv hlt
        rcases hkk with rfl | ⟨g1, g2⟩ | ⟨g1, rfl⟩
        · have h0 : pick (eqB (-1)) c.dis c.dis.length = [] := pick_none (fun a ha => by have h := HALL.out a ha; simp [eqB]; omega) _
          have hnd := fun W hk => HND.out W hk (-1)
          rw [h0] at hnd
          simp only [List.length_nil] at hnd
          have HND0 := hid hnd
          have hin : inB (-1) c.cen = false := by rw [HCN.out]; simp [inB]
          have hhm := fun W hk => HHOM.out W hk (-1)
          rw [hin] at hhm
          simp only [Bool.false_eq_true, if_false] at hhm
          have HHM := hid hhm
          have HN0 : Hid (∀ W B d, Calls Try.prog 15 #[.slice B 0 d, .slice none 0 0] W fun e w' => e = .returned (.bool true) ∧ Same W w') := hid (fun W B d => numbers_eq W B none d 0 [] (Sl.nil _ _ _ _) (Sl.nil _ _ _ _) (by simp))
          clear h0 hnd hin hhm
          go_wp2_with (refine wpList_load_row rfl _ (.tmp 6) rfl w2.heap.size rfl _ (map16 c X L.length cx).toArray (0, 0) _ HXr.out Try.underlying36 rfl (by kernel_rfl) ?_)
          (with_reducible refine (HRN.out _ HI.out _).mono ?_)
          rintro e w4 ⟨B4, d4, rfl, hs4, hk4⟩
          have HK4 := hid (HI.out.then hk4)
          clear c0 hk4 hs4
          have c0 := (HBX.out w4 HK4.out).c0
          rw [HCN.out] at c0
          go_wp2_with fail
          (with_reducible refine (HHM.out _ HK4.out).mono ?_)
          rintro e w5 ⟨rfl, hw5⟩
          subst hw5
          go_wp2_with fail
          (with_reducible refine (HND0.out _ HK4.out).mono ?_)
          rintro e w6 ⟨B6, d6, rfl, hs6, hk6⟩
          have HK6 := hid (HK4.out.then hk6)
          clear hk6 hs6 c0
          go_wp2_with fail
          (with_reducible refine (HN0.out _ _ _).mono ?_)
          rintro e w7 ⟨rfl, hk7⟩
          have HK7 := hid (HK6.out.then hk7)
          clear hk7
          go_wp2_with fail
          go_roundw
          case rel => exact ⟨k + 1, by have h := HIV.out; omega, int_of (by have h := HIV.out; omega), int_of (by rw [show sumD c.dis (min (k + 1 - 1) N) = S0 from by rw [HS0.out]; congr 1; have h := HIV.out; omega]), hid HK7.out⟩
          case measure => first | (simp [RowKit.intOf]; done) | (simp [RowKit.intOf]; omega)
        · obtain ⟨j, rfl⟩ := Int.eq_ofNat_of_zero_le g1
          have hin : inB ((j : Nat) : Int) c.cen = true := by rw [HCN.out]; simp [inB]; omega
          have hhm := fun W hk => HHOM.out W hk (j : Int)
          rw [hin] at hhm
          simp only [if_true] at hhm
          have HHM := hid hhm
          have hq := pick_all (p := eqB (j : Int)) (l := c.dis)
          have hq2 : sumD c.dis (j + 1) = sumD c.dis j + c.dis.countP (eqB (j : Int)) := rfl
          have hq3 := HMON.out (j + 1) (by omega)
          have hS : S0 = sumD c.dis j := by rw [HS0.out]; congr 1; have h := HIV.out; omega
          have HNX := hid (show sumD c.dis (min (k + 1 - 1) N) = S0 + (pick (eqB (j : Int)) c.dis c.dis.length).length from by
            rw [hq, hS, ← hq2]; congr 1; have h := HIV.out; omega)
          have hnd := fun W hk => HND.out W hk (j : Int)
          have hrn := fun W hk => HRN.out W hk (j : Int)
          have hPK : (pick (eqB (j : Int)) c.dis c.dis.length).length ≤ 60 := by omega
          clear hq hq2 hq3 hS hin hhm
          generalize pick (eqB (j : Int)) c.dis c.dis.length = PK at *
          have HNDj := hid hnd
          have HRNj := hid hrn
          have HNU := hid (fun W A B ca cb hA hB => numbers_eq W A B ca cb PK hA hB (by omega))
          clear hnd hrn
          go_wp2_with (refine wpList_load_row rfl _ (.tmp 6) rfl w2.heap.size rfl _ (map16 c X L.length cx).toArray (0, 0) _ HXr.out Try.underlying36 rfl (by kernel_rfl) ?_)
          (with_reducible refine (HRNj.out _ HI.out).mono ?_)
          rintro e w4 ⟨B4, d4, rfl, hs4, hk4⟩
          have HK4 := hid (HI.out.then hk4)
          have HS4 := hid (hs4.wide (Av' := fun _ => False) (fun _ _ f => f.elim))
          clear c0 hk4 hs4
          have c0 := (HBX.out w4 HK4.out).c0
          rw [HCN.out] at c0
          go_wp2_with fail
          (with_reducible refine (HHM.out _ HK4.out).mono ?_)
          rintro e w5 ⟨rfl, hw5⟩
          subst hw5
          go_wp2_with fail
          (with_reducible refine (HNDj.out _ HK4.out).mono ?_)
          rintro e w6 ⟨B6, d6, rfl, hs6, hk6⟩
          have HK6 := hid (HK4.out.then hk6)
          have HS6 := hid (hs6.wide (Av' := fun _ => False) (fun _ _ f => f.elim))
          have HS46 := hid (HS4.out.same hk6)
          clear hk6 hs6 c0
          go_wp2_with fail
          (with_reducible refine (HNU.out _ _ _ _ _ HS6.out HS46.out).mono ?_)
          rintro e w7 ⟨rfl, hk7⟩
          have HK7 := hid (HK6.out.then hk7)
          clear hk7
          go_wp2_with fail
          go_roundw
          case rel => exact ⟨k + 1, by have h := HIV.out; omega, int_of (by have h := HIV.out; omega), int_of (by rw [HNX.out]; omega), hid HK7.out⟩
          case measure => first | (simp [RowKit.intOf]; done) | (simp [RowKit.intOf]; omega)
        · have h0 : pick (eqB ((N : Int))) c.dis c.dis.length = [] := pick_none (fun a ha => by have h := HALL.out a ha; simp [eqB]; omega) _
          have hnd := fun W hk => HND.out W hk ((N : Int))
          rw [h0] at hnd
          simp only [List.length_nil] at hnd
          have HND0 := hid hnd
          have hin : inB ((N : Int)) c.cen = false := by rw [HCN.out]; simp [inB]
          have hhm := fun W hk => HHOM.out W hk ((N : Int))
          rw [hin] at hhm
          simp only [Bool.false_eq_true, if_false] at hhm
          have HHM := hid hhm
          have HN0 : Hid (∀ W B d, Calls Try.prog 15 #[.slice B 0 d, .slice none 0 0] W fun e w' => e = .returned (.bool true) ∧ Same W w') := hid (fun W B d => numbers_eq W B none d 0 [] (Sl.nil _ _ _ _) (Sl.nil _ _ _ _) (by simp))
          clear h0 hnd hin hhm
          go_wp2_with (refine wpList_load_row rfl _ (.tmp 6) rfl w2.heap.size rfl _ (map16 c X L.length cx).toArray (0, 0) _ HXr.out Try.underlying36 rfl (by kernel_rfl) ?_)
          (with_reducible refine (HRN.out _ HI.out _).mono ?_)
          rintro e w4 ⟨B4, d4, rfl, hs4, hk4⟩
          have HK4 := hid (HI.out.then hk4)
          clear c0 hk4 hs4
          have c0 := (HBX.out w4 HK4.out).c0
          rw [HCN.out] at c0
          go_wp2_with fail
          (with_reducible refine (HHM.out _ HK4.out).mono ?_)
          rintro e w5 ⟨rfl, hw5⟩
          subst hw5
          go_wp2_with fail
          (with_reducible refine (HND0.out _ HK4.out).mono ?_)
          rintro e w6 ⟨B6, d6, rfl, hs6, hk6⟩
          have HK6 := hid (HK4.out.then hk6)
          clear hk6 hs6 c0
          go_wp2_with fail
          (with_reducible refine (HN0.out _ _ _).mono ?_)
          rintro e w7 ⟨rfl, hk7⟩
          have HK7 := hid (HK6.out.then hk7)
          clear hk7
          go_wp2_with fail
          go_roundw
          case rel => exact ⟨k + 1, by have h := HIV.out; omega, int_of (by have h := HIV.out; omega), int_of (by rw [show sumD c.dis (min (k + 1 - 1) N) = S0 from by rw [HS0.out]; congr 1; have h := HIV.out; omega]), hid HK7.out⟩
          case measure => first | (simp [RowKit.intOf]; done) | (simp [RowKit.intOf]; omega)
      · obtain rfl : k = N + 2 := by omega
        have hsum : sumD c.dis (min (N + 2 - 1) N) = c.dis.length := by rw [Nat.min_eq_right (by omega)]; exact HSUM.out
        rw [hsum]
        have c1 := (HBX.out wr HI.out).c1
        by_cases hn : n < 0 ∨ (0 ≤ n ∧ (c.dis.length : Int) ≤ n)
        · have HOUT := hid (dof_out wr mb tb sb A cp c L (HD3.out.same HI.out) n hn)
          rcases hn with hn | ⟨hn, hn2⟩
          all_goals
            go_wp2_with fail
            (with_reducible refine HOUT.out.mono ?_)
            rintro e w4 ⟨rfl, hw4⟩
            subst hw4
            go_wp2_with fail
            (with_reducible refine (HAW.out _).mono ?_)
            rintro e w5 ⟨rfl, hk5⟩
            have HK5 := hid (HI.out.then hk5)
            clear hk5
            go_wp2_with fail
            go_ret
            exact ⟨rfl, HK3.out.then HK5.out⟩
        · obtain ⟨q, rfl⟩ := Int.eq_ofNat_of_zero_le (show 0 ≤ n by omega)
          obtain ⟨a, ha⟩ := get_some (l := c.dis) (k := q) (by omega)
          have HIN := hid (dof_in wr mb tb sb A cp c L (HD3.out.same HI.out) q a ha)
          obtain ⟨b9, o9, he9, _, q9⟩ := ints_at ((HCM.out.same (HK3.out.then HI.out)).dis) ha
          rw [he9] at c1
          have hq : (q : Int) < (c.dis.length : Int) := by omega
          clear hn ha he9
          go_wp2_with fail
          (with_reducible refine HIN.out.mono ?_)
          rintro e w4 ⟨rfl, hw4⟩
          subst hw4
          go_wp2_with fail
          (with_reducible refine (HAW.out _).mono ?_)
          rintro e w5 ⟨rfl, hk5⟩
          have HK5 := hid (HI.out.then hk5)
          clear hk5
          go_wp2_with fail
          go_ret
          exact ⟨rfl, HK3.out.then HK5.out⟩
end Go.Proofs.Ytmkcphhgimlkgaa

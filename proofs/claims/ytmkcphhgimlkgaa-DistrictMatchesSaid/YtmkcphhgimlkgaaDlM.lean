import Derived.Test.YtmkcphhgimlkgaaDiK
import Derived.Test.YtmkcphhgimlkgaaLeSe
import Derived.Deep.CutRange
import Derived.Deep.RegionHeld3
namespace Go.Proofs.Ytmkcphhgimlkgaa
open Go.RowKit

set_option maxRecDepth 100000 in
set_option maxHeartbeats 16000000 in
theorem matches_walk (w : World) (c : CF) (hm : CM w c) (hf : Few c) (Z : Option Addr) (cz : Nat) (acts : List AK) (hz : Sl w (fun _ => False) 5 Z acts.length (akcells acts)) (hzn : acts.length ≤ maxLen) :
    Calls Try.prog 9 #[.agg (map16 c Z acts.length cz).toArray] w fun e w' => e = .returned (.bool true) ∧ Same w w' := by
  have hb0 := Blk.made w 30 (map16 c Z acts.length cz).toArray
  have hw0 : Same w (w.alloc (.cells (map16 c Z acts.length cz).toArray 30)) := (Keep.refl _ _).alloc _
  generalize hw1 : w.alloc (.cells (map16 c Z acts.length cz).toArray 30) = w1 at *
  have HB := hid hb0
  have HW := hid hw0
  have HPL := hid (played_any w1 c (hm.same hw0) hf Z cz acts (hz.same hw0) hzn)
  unfold PlayPost at HPL
  have HAW := hid awake_any
  clear hb0 hw0 hm hf hz hzn
  go_enter Try.func9, Try.ntmps9
  go_upto_region 1 with fail
  try rw [hw1]
  go_wp2_with (refine wpList_load_row rfl _ (.tmp 1) rfl w.heap.size rfl _ (map16 c Z acts.length cz).toArray (0, 0) _ HB.out Try.underlying30 rfl (by kernel_rfl) ?_)
  (with_reducible refine HPL.out.mono ?_)
  rintro e w2 (⟨rfl, hk2⟩ | ⟨hv, ha60, hd60, mb, tb, sb, A, cp, X, cx, rfl, hP, hk2⟩)
  · have HK2 := hid (HW.out.then hk2)
    clear hk2
    go_upto_region 2 with (refine wpList_store_row rfl _ (.tmp 4) (.tmp 18) rfl w2.heap.size zero16.toArray rfl rfl _ _ (Blk.made w2 36 zero16.toArray) (by kernel_rfl) rfl (one_toArray zero16_one) ?_)
    have hK : Same w2 ((w2.alloc (.cells zero16.toArray 36)).setRow w2.heap.size zero16.toArray) := ((Keep.refl _ w2).alloc _).trans (Keep.row _ _ _) (fun i hi e => by have e2 : i = w2.heap.size := e; omega)
    simp only [zero16] at hK ⊢
    generalize ((w2.alloc (.cells #[.int .i64 0, .slice none 0 0, .slice none 0 0, .slice none 0 0, .slice none 0 0, .int .i64 0, .int .i64 0, .int .i64 0, .int .i64 0, .int .i64 0, .int .i64 0, .int .i64 0, .int .i64 0, .int .i64 0, .int .i64 0, .slice none 0 0] 36)).setRow w2.heap.size #[.int .i64 0, .slice none 0 0, .slice none 0 0, .slice none 0 0, .slice none 0 0, .int .i64 0, .int .i64 0, .int .i64 0, .int .i64 0, .int .i64 0, .int .i64 0, .int .i64 0, .int .i64 0, .int .i64 0, .int .i64 0, .slice none 0 0]) = w3 at *
    have HK3 := hid (HK2.out.then hK)
    clear hK
    go_wp2_with fail
    (with_reducible refine (HAW.out _).mono ?_)
    rintro e w4 ⟨rfl, hk4⟩
    have HK4 := hid (HK3.out.then hk4)
    clear hk4
    go_wp2_with fail
    go_ret
    exact ⟨rfl, HK4.out⟩
  · have HK2 := hid (HW.out.then hk2)
    have HL := hid (show w.heap.size ≤ mb ∧ w.heap.size ≤ tb ∧ w.heap.size ≤ sb from ⟨Nat.le_trans HW.out.size hP.mb, Nat.le_trans HW.out.size hP.tb, Nat.le_trans HW.out.size hP.sb⟩)
    have hd2 := hP.dm
    have ht2 := hP.th
    have HINI := hid hv
    clear hk2 hP
    generalize runD c acts (initL c.cen.toNat c.h3) = L at *
    go_upto_region 2 with (refine wpList_store_row rfl _ (.tmp 4) (.tmp 18) rfl w2.heap.size (map16 c X L.length cx).toArray rfl rfl _ _ (Blk.made w2 36 zero16.toArray) (by kernel_rfl) rfl (one_toArray (map16_one _ _ _ _)) ?_)
    have hB3 := (Blk.made w2 36 zero16.toArray).row (map16 c X L.length cx).toArray
    have hK : Same w2 ((w2.alloc (.cells zero16.toArray 36)).setRow w2.heap.size (map16 c X L.length cx).toArray) := ((Keep.refl _ w2).alloc _).trans (Keep.row _ _ _) (fun i hi e => by have e2 : i = w2.heap.size := e; omega)
    simp only [zero16] at hB3 hK ⊢
    generalize ((w2.alloc (.cells #[.int .i64 0, .slice none 0 0, .slice none 0 0, .slice none 0 0, .slice none 0 0, .int .i64 0, .int .i64 0, .int .i64 0, .int .i64 0, .int .i64 0, .int .i64 0, .int .i64 0, .int .i64 0, .int .i64 0, .int .i64 0, .slice none 0 0] 36)).setRow w2.heap.size (map16 c X L.length cx).toArray) = w3 at *
    have HB3 := hid hB3
    have HK3 := hid (HK2.out.then hK)
    have HD3 := hid (hd2.same hK)
    have HT3 := hid (ht2.same hK)
    have hs9 := hd2.ok.small
    clear hB3 hK hd2 ht2
    have HHO := hid (fun W (hk : Same w3 W) d => holder_any W mb tb sb A cp c L (HD3.out.same hk) d)
    unfold HolderPost at HHO
    have HRL := hid (fun W (hk : Same w3 W) d => rlast_any W _ X cx L (HT3.out.same hk) hs9 d)
    unfold RlPost at HRL
    have HLE := hid (fun W (hk : Same w3 W) => leases_any W mb tb sb A cp c L (HD3.out.same hk))
    have HLA := hid (fun W (hk : Same w3 W) d => last_any W tb sb L (HD3.out.same hk).tab d)
    have HCK := hid (fun W (hk : Same w3 W) => dchecksum_any W mb tb sb A cp c L (HD3.out.same hk))
    have HSE := hid (fun W (hk : Same w3 W) => seal_any W _ X cx L (HT3.out.same hk) hs9)
    have HX15 := hid (fun W (hk : Same w3 W) => (show W.cell? ⟨w2.heap.size, 15, none⟩ = some (.slice X L.length cx) from (HB3.out.keep hk (fun f => f)).at_ 15))
    go_wp2_with fail
    go_loopw [6] (fun i wr => ∃ k : Nat, k ≤ L.length + 2 ∧ i = .int .i64 ((k : Int) - 1) ∧ Hid (Same w3 wr)) (fun i _ => ((L.length : Int) + 1 - RowKit.intOf i).toNat)
    case atStart => exact ⟨0, by omega, rfl, hid (Keep.refl _ _)⟩
    case round =>
      obtain ⟨k, hk, rfl, HI⟩ := hrel
      have x15 : wr.cell? ⟨w2.heap.size, 15, none⟩ = some (.slice X L.length cx) := HX15.out wr HI.out
      by_cases hlt : (k : Int) - 1 ≤ L.length
      · go_wp2_with fail
        (with_reducible refine (HHO.out _ HI.out _).mono ?_)
        rintro e w4 ⟨rfl, hk4⟩
        have HK4 := hid (HI.out.then hk4)
        clear hk4 x15
        have x15 : w4.cell? ⟨w2.heap.size, 15, none⟩ = some (.slice X L.length cx) := HX15.out w4 HK4.out
        generalize hLR : lastR L ((k : Int) - 1) = LR at *
        have HLR := hid hLR
        clear hLR
        go_wp2_with fail
        (with_reducible refine (HRL.out _ HK4.out _).mono ?_)
        rintro e w5 ⟨gvv, rfl, hk5⟩
        have HK5 := hid (HK4.out.then hk5)
        clear hk5 x15
        rw [HLR.out]
        go_wp2_with fail
        (with_reducible refine (HLE.out _ (HK5.out.alloc _)).mono ?_)
        rintro e w6 ⟨rfl, hw6⟩
        subst hw6
        go_wp2_with fail
        (with_reducible refine (HLA.out _ (HK5.out.alloc _) _).mono ?_)
        rintro e w7 ⟨rfl, hk7⟩
        rw [HLR.out]
        have HK7 := hid ((HK5.out.alloc _).then hk7)
        have hb7 := (Blk.made w5 72 #[.int .i64 LR.1, .int .i64 LR.2.1, .int .i64 LR.2.2, .int .i64 gvv]).keep hk7 (fun f => f)
        have y0 : w7.cell? ⟨w5.heap.size, 0, none⟩ = some (.int .i64 LR.1) := hb7.at_ 0
        have y1 : w7.cell? ⟨w5.heap.size, 1, none⟩ = some (.int .i64 LR.2.1) := hb7.at_ 1
        have y2 : w7.cell? ⟨w5.heap.size, 2, none⟩ = some (.int .i64 LR.2.2) := hb7.at_ 2
        clear hk7 hb7
        go_wp2_with fail
        go_roundw
        case rel => exact ⟨k + 1, by omega, by go_num, hid HK7.out⟩
        case measure => simp [RowKit.intOf]; omega
      · go_wp2_with fail
        refine wp_region_held_drew (S := fun W => W.cell? ⟨w2.heap.size, 15, none⟩ = some (.slice X L.length cx)) (by kernel_rfl) (HX15.out _ HI.out.drew) (fun hHeld => ?_)
        refine takeO (i := 0) (v := ?_) (by kernel_rfl) (by kernel_rfl) (by kernel_rfl) (fun c a d v w h => by cases d <;> exact h) (oi := ?_) ?_ ?_ (by assumption) ?_
        rotate_left 2
        · (simp only [List.getElem?_toArray, List.getElem?_cons_zero]; rfl)
        · (refine Or.inl ⟨by rfl, ?_⟩; intro w hSw; (try dsimp only at hSw); go_simp; try with_reducible rfl)
        try simp only [Act.put, List.setIfInBounds_toArray, List.set_cons_zero, List.set_cons_succ]
        refine takeO (i := 1) (v := ?_) (by kernel_rfl) (by kernel_rfl) (by kernel_rfl) (fun c a d v w h => by cases d <;> exact h) (oi := ?_) ?_ ?_ (by assumption) ?_
        rotate_left 2
        · (simp only [List.getElem?_toArray, List.getElem?_cons_succ, List.getElem?_cons_zero]; rfl)
        · (refine Or.inl ⟨by rfl, ?_⟩; intro w hSw; (try dsimp only at hSw); go_simp; try with_reducible rfl)
        try simp only [Act.put, List.setIfInBounds_toArray, List.set_cons_zero, List.set_cons_succ]
        refine takeO (i := 2) (v := ?_) (by kernel_rfl) (by kernel_rfl) (by kernel_rfl) (fun c a d v w h => by cases d <;> exact h) (oi := ?_) ?_ ?_ (by assumption) ?_
        rotate_left 2
        · (simp only [List.getElem?_toArray, List.getElem?_cons_succ, List.getElem?_cons_zero]; rfl)
        · (refine Or.inl ⟨by rfl, ?_⟩; intro w hSw; (try dsimp only at hSw); go_simp; try with_reducible rfl)
        try simp only [Act.put, List.setIfInBounds_toArray, List.set_cons_zero, List.set_cons_succ]
        refine takeO (i := 4) (v := ?_) (by kernel_rfl) (by kernel_rfl) (by kernel_rfl) (fun c a d v w h => by cases d <;> exact h) (oi := ?_) ?_ ?_ (by assumption) ?_
        rotate_left 2
        · (simp only [List.getElem?_toArray, List.getElem?_cons_succ, List.getElem?_cons_zero]; rfl)
        · (refine Or.inl ⟨by rfl, ?_⟩; intro w hSw; (try dsimp only at hSw); go_simp; try with_reducible rfl)
        try simp only [Act.put, List.setIfInBounds_toArray, List.set_cons_zero, List.set_cons_succ]
        refine takeO (i := 5) (v := ?_) (by kernel_rfl) (by kernel_rfl) (by kernel_rfl) (fun c a d v w h => by cases d <;> exact h) (oi := ?_) ?_ ?_ (by assumption) ?_
        rotate_left 2
        · (simp only [List.getElem?_toArray, List.getElem?_cons_succ, List.getElem?_cons_zero]; rfl)
        · (refine Or.inl ⟨by rfl, ?_⟩; intro w hSw; (try dsimp only at hSw); go_simp; try with_reducible rfl)
        try simp only [Act.put, List.setIfInBounds_toArray, List.set_cons_zero, List.set_cons_succ]
        refine wpAnyH_ready (rs := [3]) (by kernel_rfl) (by simp) ?_
        refine AllReadyH.cons rfl (fun K hK => ?_) AllReadyH.nil
        go_simp
        refine (HCK.out _ (HI.out.drew)).mono ?_
        rintro e w5 ⟨rfl, hk5⟩
        have HK5 := hid (HI.out.drew.then hk5)
        clear hk5
        refine hK.out _ _ (HX15.out _ HK5.out) (fun hHeld1 => ?_)
        clear hK K
        try simp only [Act.put, List.setIfInBounds_toArray, List.set_cons_zero, List.set_cons_succ]
        refine wpAnyH_ready (rs := [6]) (by kernel_rfl) (by simp) ?_
        refine AllReadyH.cons rfl (fun K hK => ?_) AllReadyH.nil
        go_simp
        refine (HSE.out _ HK5.out).mono ?_
        rintro e w6 ⟨rfl, hk6⟩
        have HK6 := hid (HK5.out.then hk6)
        clear hk6
        refine hK.out _ _ (HX15.out _ HK6.out) (fun hHeld2 => ?_)
        clear hK K
        try simp only [Act.put, List.setIfInBounds_toArray, List.set_cons_zero, List.set_cons_succ]
        refine takeO (i := 7) (v := ?_) (by kernel_rfl) (by kernel_rfl) (by kernel_rfl) (fun c a d v w h => by cases d <;> exact h) (oi := ?_) ?_ ?_ (by assumption) ?_
        rotate_left 2
        · (simp only [List.getElem?_toArray, List.getElem?_cons_succ, List.getElem?_cons_zero]; rfl)
        · (refine Or.inl ⟨by rfl, ?_⟩; intro w hSw; (try dsimp only at hSw); go_simp; try with_reducible rfl)
        try simp only [Act.put, List.setIfInBounds_toArray, List.set_cons_zero, List.set_cons_succ]
        refine takeO (i := 8) (v := ?_) (by kernel_rfl) (by kernel_rfl) (by kernel_rfl) (fun c a d v w h => by cases d <;> exact h) (oi := ?_) ?_ ?_ (by assumption) ?_
        rotate_left 2
        · (simp only [List.getElem?_toArray, List.getElem?_cons_succ, List.getElem?_cons_zero]; rfl)
        · (refine Or.inl ⟨by rfl, ?_⟩; intro w hSw; (try dsimp only at hSw); go_simp; try with_reducible rfl)
        try simp only [Act.put, List.setIfInBounds_toArray, List.set_cons_zero, List.set_cons_succ]
        refine takeO (i := 9) (v := ?_) (by kernel_rfl) (by kernel_rfl) (by kernel_rfl) (fun c a d v w h => by cases d <;> exact h) (oi := ?_) ?_ ?_ (by assumption) ?_
        rotate_left 2
        · (simp only [List.getElem?_toArray, List.getElem?_cons_succ, List.getElem?_cons_zero]; rfl)
        · (refine Or.inl ⟨by rfl, ?_⟩; intro w hSw; (try dsimp only at hSw); go_simp; try with_reducible rfl)
        try simp only [Act.put, List.setIfInBounds_toArray, List.set_cons_zero, List.set_cons_succ]
        refine wpAnyH_ready (rs := [10]) (by kernel_rfl) (by simp) ?_
        refine AllReadyH.cons rfl (fun K hK => ?_) AllReadyH.nil
        go_simp
        refine (HAW.out _).mono ?_
        rintro e w7 ⟨rfl, hk7⟩
        have HK7 := hid (HK6.out.then hk7)
        clear hk7
        refine hK.out _ _ (HX15.out _ HK7.out) (fun hHeld3 => ?_)
        clear hK K
        try simp only [Act.put, List.setIfInBounds_toArray, List.set_cons_zero, List.set_cons_succ]
        refine takeO (i := 11) (v := ?_) (by kernel_rfl) (by kernel_rfl) (by kernel_rfl) (fun c a d v w h => by cases d <;> exact h) (oi := ?_) ?_ ?_ (by assumption) ?_
        rotate_left 2
        · (simp only [List.getElem?_toArray, List.getElem?_cons_succ, List.getElem?_cons_zero]; rfl)
        · (refine Or.inl ⟨by rfl, ?_⟩; intro w hSw; (try dsimp only at hSw); go_simp; try with_reducible rfl)
        try simp only [Act.put, List.setIfInBounds_toArray, List.set_cons_zero, List.set_cons_succ]
        refine takeO (i := 12) (v := ?_) (by kernel_rfl) (by kernel_rfl) (by kernel_rfl) (fun c a d v w h => by cases d <;> exact h) (oi := ?_) ?_ ?_ (by assumption) ?_
        rotate_left 2
        · (simp only [List.getElem?_toArray, List.getElem?_cons_succ, List.getElem?_cons_zero]; rfl)
        · (refine Or.inl ⟨by rfl, ?_⟩; intro w hSw; (try dsimp only at hSw); go_simp; try with_reducible rfl)
        try simp only [Act.put, List.setIfInBounds_toArray, List.set_cons_zero, List.set_cons_succ]
        refine wpAnyH_done (by kernel_rfl) ?_ _
        go_wp2_with fail
        go_ret
        exact ⟨rfl, HK3.out.then HK7.out⟩
end Go.Proofs.Ytmkcphhgimlkgaa

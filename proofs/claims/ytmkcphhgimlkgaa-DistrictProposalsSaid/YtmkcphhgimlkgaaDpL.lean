import Derived.Test.YtmkcphhgimlkgaaDiK
import Derived.Test.YtmkcphhgimlkgaaDpC
import Derived.Test.YtmkcphhgimlkgaaDpV
import Derived.Test.YtmkcphhgimlkgaaDlA
import Derived.Deep.CutRange
import Derived.Deep.RegionHeld3
namespace Go.Proofs.Ytmkcphhgimlkgaa
open Go.RowKit

set_option maxRecDepth 100000 in
set_option maxHeartbeats 16000000 in
theorem prop_walk (w : World) (c : CF) (hm : CM w c) (hf : Few c) (Z : Option Addr) (cz : Nat) (acts : List AK) (hz : Sl w (fun _ => False) 5 Z acts.length (akcells acts)) (hzn : acts.length ≤ maxLen) (ce : Int) (Q : Option Addr) (cq : Nat) (S : List Int) (hS : Sl w (fun _ => False) 1 Q S.length (icellsC S)) (hSn : S.length ≤ maxLen) (now again : Int) (a1 : again ≤ 9223372036854775807) :
    Calls Try.prog 3 #[.agg (map16 c Z acts.length cz).toArray, .agg (askV ce Q S.length cq now again).toArray] w fun e w' => e = .returned (.bool true) ∧ Same w w' := by
  have hb0 := (Blk.made w 30 (map16 c Z acts.length cz).toArray).alloc (.cells (askV ce Q S.length cq now again).toArray 32)
  have hq0 := Blk.made (w.alloc (.cells (map16 c Z acts.length cz).toArray 30)) 32 (askV ce Q S.length cq now again).toArray
  rw [World.size_alloc] at hq0
  have hw0 : Same w ((w.alloc (.cells (map16 c Z acts.length cz).toArray 30)).alloc (.cells (askV ce Q S.length cq now again).toArray 32)) := ((Keep.refl _ _).alloc _).alloc _
  generalize hw1 : ((w.alloc (.cells (map16 c Z acts.length cz).toArray 30)).alloc (.cells (askV ce Q S.length cq now again).toArray 32)) = w1 at *
  have HB := hid hb0
  have HW := hid hw0
  have HPL := hid (played_any w1 c (hm.same hw0) hf Z cz acts (hz.same hw0) hzn)
  unfold PlayPost at HPL
  have HAW := hid awake_any
  have HQB := hid (fun W (hk : Same w1 W) => hq0.keep (S := fun _ => False) hk (fun f => f))
  have HQS := hid hS
  clear hq0 hS
  unfold maxLen at hSn
  clear hb0 hw0 hm hf hz hzn
  go_enter Try.func3, Try.ntmps3
  go_upto_region 1 with fail
  try rw [hw1]
  go_wp2_with (refine wpList_load_row rfl _ (.tmp 2) rfl w.heap.size rfl _ (map16 c Z acts.length cz).toArray (0, 0) _ HB.out Try.underlying30 rfl (by kernel_rfl) ?_)
  (with_reducible refine HPL.out.mono ?_)
  rintro e w2 (⟨rfl, hk2⟩ | ⟨hv, ha60, hd60, mb, tb, sb, A, cp, X, cx, rfl, hP, hk2⟩)
  · have HK2 := hid (HW.out.then hk2)
    clear hk2
    go_upto_region 2 with (refine wpList_store_row rfl _ (.tmp 6) (.tmp 12) rfl w2.heap.size zero16.toArray rfl rfl _ _ (Blk.made w2 36 zero16.toArray) (by kernel_rfl) rfl (one_toArray zero16_one) ?_)
    have hK : Same w2 ((w2.alloc (.cells zero16.toArray 36)).setRow w2.heap.size zero16.toArray) := ((Keep.refl _ w2).alloc _).trans (Keep.row _ _ _) (fun i hi e => by have e2 : i = w2.heap.size := e; omega)
    simp only [zero16] at hK ⊢
    generalize ((w2.alloc (.cells #[.int .i64 0, .slice none 0 0, .slice none 0 0, .slice none 0 0, .slice none 0 0, .int .i64 0, .int .i64 0, .int .i64 0, .int .i64 0, .int .i64 0, .int .i64 0, .int .i64 0, .int .i64 0, .int .i64 0, .int .i64 0, .slice none 0 0] 36)).setRow w2.heap.size #[.int .i64 0, .slice none 0 0, .slice none 0 0, .slice none 0 0, .slice none 0 0, .int .i64 0, .int .i64 0, .int .i64 0, .int .i64 0, .int .i64 0, .int .i64 0, .int .i64 0, .int .i64 0, .int .i64 0, .int .i64 0, .slice none 0 0]) = w3 at *
    have HK3 := hid (HK2.out.then hK)
    clear hK
    go_wp2_with fail
    (with_reducible refine (HAW.out _).mono ?_)
    rintro e w4 ⟨rfl, hk4⟩
    have HK4 := hid (HK3.out.then hk4)
    clear hk4
    go_wp2_with fail
    go_ret
    exact ⟨rfl, HK4.out⟩
  · have HK2 := hid (HW.out.then hk2)
    have HL := hid (show w.heap.size ≤ mb ∧ w.heap.size ≤ tb ∧ w.heap.size ≤ sb from ⟨Nat.le_trans HW.out.size hP.mb, Nat.le_trans HW.out.size hP.tb, Nat.le_trans HW.out.size hP.sb⟩)
    have hd2 := hP.dm
    have HL1 := hid (show w1.heap.size ≤ mb ∧ w1.heap.size ≤ tb ∧ w1.heap.size ≤ sb from ⟨hP.mb, hP.tb, hP.sb⟩)
    have HSB2 := hid (show sb < w2.heap.size from hP.dm.tab.row.lt)
    have ht2 := hP.th
    have HINI := hid hv
    have HK12 := hid hk2
    clear hk2 hP
    generalize runD c acts (initL c.cen.toNat c.h3) = L at *
    go_upto_region 2 with (refine wpList_store_row rfl _ (.tmp 6) (.tmp 12) rfl w2.heap.size (map16 c X L.length cx).toArray rfl rfl _ _ (Blk.made w2 36 zero16.toArray) (by kernel_rfl) rfl (one_toArray (map16_one _ _ _ _)) ?_)
    have hB3 := (Blk.made w2 36 zero16.toArray).row (map16 c X L.length cx).toArray
    have hK : Same w2 ((w2.alloc (.cells zero16.toArray 36)).setRow w2.heap.size (map16 c X L.length cx).toArray) := ((Keep.refl _ w2).alloc _).trans (Keep.row _ _ _) (fun i hi e => by have e2 : i = w2.heap.size := e; omega)
    simp only [zero16] at hB3 hK ⊢
    generalize ((w2.alloc (.cells #[.int .i64 0, .slice none 0 0, .slice none 0 0, .slice none 0 0, .slice none 0 0, .int .i64 0, .int .i64 0, .int .i64 0, .int .i64 0, .int .i64 0, .int .i64 0, .int .i64 0, .int .i64 0, .int .i64 0, .int .i64 0, .slice none 0 0] 36)).setRow w2.heap.size (map16 c X L.length cx).toArray) = w3 at *
    have HB3 := hid hB3
    have HK3 := hid (HK2.out.then hK)
    have HK23 := hid (show Same w2 w3 from hK)
    have HD3 := hid (hd2.same hK)
    have HT3 := hid (ht2.same hK)
    have hs9 := hd2.ok.small
    clear hB3 hK hd2 ht2
    have HQK := hid (fun W (hk : Keep (fun i => i = sb) w3 W) => (HQB.out w3 (HK12.out.then (HK23.out))).keep hk (by have h1 := HL1.out; have h4 := (HQB.out w1 (Keep.refl _ _)).lt; omega))
    have q1 : w3.cell? ⟨w.heap.size + 1, 1, none⟩ = some (.slice Q S.length cq) := (HQK.out w3 (Keep.refl _ _)).at_ 1
    by_cases hbig : 20 < (S.length : Int)
    · go_wp2_with fail
      (with_reducible refine (HAW.out _).mono ?_)
      rintro e w4 ⟨rfl, hk4⟩
      have HK4 := hid (HK3.out.then hk4)
      clear hk4
      go_wp2_with fail
      go_ret
      exact ⟨rfl, HK4.out⟩
    · have HSS := hid (fun W (hk : Keep (fun i => i = sb) w3 W) => ((HQS.out.old.same HK3.out).wide (Av' := fun i => i = sb) (fun i _ e => by have h1 := HL.out; omega)).keep hk (fun _ _ e => e))
      have HPR := hid (fun W (hk : Same w3 W) => proposals_any W mb tb sb A cp c L (HD3.out.same hk) ce now again a1 Q cq S (HSS.out W (hk.wide (fun _ _ f => f.elim))) (by omega))
      have HWA := hid (fun W (hk : Keep (fun i => i = sb) w3 W) => wants_any W c X cx L ((HT3.out.keep hk (fun _ _ e => e)).wide (fun _ _ f => f.elim)) HD3.out.ok Q cq S ((HSS.out W hk).wide (fun _ _ f => f.elim)) (by omega) ce now again a1)
      unfold PrsPost at HPR
      unfold WantsPost at HWA
      have hpk : (props c.cen c.h3 ce now again S L).length ≤ 64 := by
        unfold props
        split
        · exact Nat.le_trans (propsTo_le _) hs9
        · simp
      have HPK := hid hpk
      clear hpk
      generalize props c.cen c.h3 ce now again S L = PK at *
      have HSALL := hid (fun W (hk : Keep (fun i => i = sb) w3 W) => (show Blk W w2.heap.size 36 (map16 c X L.length cx).toArray ∧ W.cell? ⟨w.heap.size + 1, 0, none⟩ = some (.int .i64 ce) ∧ W.cell? ⟨w.heap.size + 1, 1, none⟩ = some (.slice Q S.length cq) ∧ W.cell? ⟨w.heap.size + 1, 2, none⟩ = some (.int .i64 now) ∧ W.cell? ⟨w.heap.size + 1, 3, none⟩ = some (.int .i64 again) from ⟨HB3.out.keep hk (by have h1 := HSB2.out; omega), (HQK.out W hk).at_ 0, (HQK.out W hk).at_ 1, (HQK.out W hk).at_ 2, (HQK.out W hk).at_ 3⟩))
      clear q1
      have q1 : w3.cell? ⟨w.heap.size + 1, 1, none⟩ = some (.slice Q S.length cq) := (HQK.out w3 (Keep.refl _ _)).at_ 1
      go_wp2_with fail
      clear q1
      refine wp_region_held_drew (S := fun W => Blk W w2.heap.size 36 (map16 c X L.length cx).toArray ∧ W.cell? ⟨w.heap.size + 1, 0, none⟩ = some (.int .i64 ce) ∧ W.cell? ⟨w.heap.size + 1, 1, none⟩ = some (.slice Q S.length cq) ∧ W.cell? ⟨w.heap.size + 1, 2, none⟩ = some (.int .i64 now) ∧ W.cell? ⟨w.heap.size + 1, 3, none⟩ = some (.int .i64 again)) (by kernel_rfl) (HSALL.out _ (Keep.refl _ _).drew) (fun hHeld => ?_)
      refine takeO (i := 0) (v := ?_) (by kernel_rfl) (by kernel_rfl) (by kernel_rfl) (fun c a d v w h => by cases d <;> exact h) (oi := ?_) ?_ ?_ (by assumption) ?_
      rotate_left 2
      · (simp only [List.getElem?_toArray, List.getElem?_cons_zero]; rfl)
      · (refine Or.inl ⟨by rfl, ?_⟩; intro w hSw; (try dsimp only at hSw); go_simp; try with_reducible rfl)
      try simp only [Act.put, List.setIfInBounds_toArray, List.set_cons_zero, List.set_cons_succ]
      refine takeO (i := 1) (v := ?_) (by kernel_rfl) (by kernel_rfl) (by kernel_rfl) (fun c a d v w h => by cases d <;> exact h) (oi := ?_) ?_ ?_ (by assumption) ?_
      rotate_left 2
      · (simp only [List.getElem?_toArray, List.getElem?_cons_succ, List.getElem?_cons_zero]; rfl)
      · (refine Or.inl ⟨by rfl, ?_⟩; intro w hSw; (try dsimp only at hSw); go_simp; try with_reducible rfl)
      try simp only [Act.put, List.setIfInBounds_toArray, List.set_cons_zero, List.set_cons_succ]
      refine takeO (i := 2) (v := ?_) (by kernel_rfl) (by kernel_rfl) (by kernel_rfl) (fun c a d v w h => by cases d <;> exact h) (oi := ?_) ?_ ?_ (by assumption) ?_
      rotate_left 2
      · (simp only [List.getElem?_toArray, List.getElem?_cons_succ, List.getElem?_cons_zero]; rfl)
      · (refine Or.inl ⟨by rfl, ?_⟩; intro w hSw; (try dsimp only at hSw); go_simp; try with_reducible rfl)
      try simp only [Act.put, List.setIfInBounds_toArray, List.set_cons_zero, List.set_cons_succ]
      refine takeO (i := 3) (v := ?_) (by kernel_rfl) (by kernel_rfl) (by kernel_rfl) (fun c a d v w h => by cases d <;> exact h) (oi := ?_) ?_ ?_ (by assumption) ?_
      rotate_left 2
      · (simp only [List.getElem?_toArray, List.getElem?_cons_succ, List.getElem?_cons_zero]; rfl)
      · (refine Or.inl ⟨by rfl, ?_⟩; intro w hSw; (try dsimp only at hSw); go_simp; try with_reducible rfl)
      try simp only [Act.put, List.setIfInBounds_toArray, List.set_cons_zero, List.set_cons_succ]
      refine takeO (i := 4) (v := ?_) (by kernel_rfl) (by kernel_rfl) (by kernel_rfl) (fun c a d v w h => by cases d <;> exact h) (oi := ?_) ?_ ?_ (by assumption) ?_
      rotate_left 2
      · (simp only [List.getElem?_toArray, List.getElem?_cons_succ, List.getElem?_cons_zero]; rfl)
      · (refine Or.inl ⟨by rfl, ?_⟩; intro w hSw; (try dsimp only at hSw); go_simp; try with_reducible rfl)
      try simp only [Act.put, List.setIfInBounds_toArray, List.set_cons_zero, List.set_cons_succ]
      refine takeO (i := 5) (v := ?_) (by kernel_rfl) (by kernel_rfl) (by kernel_rfl) (fun c a d v w h => by cases d <;> exact h) (oi := ?_) ?_ ?_ (by assumption) ?_
      rotate_left 2
      · (simp only [List.getElem?_toArray, List.getElem?_cons_succ, List.getElem?_cons_zero]; rfl)
      · (refine Or.inl ⟨by rfl, ?_⟩; intro w hSw; (try dsimp only at hSw); go_simp; try with_reducible rfl)
      try simp only [Act.put, List.setIfInBounds_toArray, List.set_cons_zero, List.set_cons_succ]
      refine takeO (i := 6) (v := ?_) (by kernel_rfl) (by kernel_rfl) (by kernel_rfl) (fun c a d v w h => by cases d <;> exact h) (oi := ?_) ?_ ?_ (by assumption) ?_
      rotate_left 2
      · (simp only [List.getElem?_toArray, List.getElem?_cons_succ, List.getElem?_cons_zero]; rfl)
      · (refine Or.inl ⟨by rfl, ?_⟩; intro w hSw; (try dsimp only at hSw); go_simp; try with_reducible rfl)
      try simp only [Act.put, List.setIfInBounds_toArray, List.set_cons_zero, List.set_cons_succ]
      refine takeO (i := 7) (v := ?_) (by kernel_rfl) (by kernel_rfl) (by kernel_rfl) (fun c a d v w h => by cases d <;> exact h) (oi := ?_) ?_ ?_ (by assumption) ?_
      rotate_left 2
      · (simp only [List.getElem?_toArray, List.getElem?_cons_succ, List.getElem?_cons_zero]; rfl)
      · (refine Or.inl ⟨by rfl, ?_⟩; intro w hSw; (try dsimp only at hSw); go_simp; try with_reducible rfl)
      try simp only [Act.put, List.setIfInBounds_toArray, List.set_cons_zero, List.set_cons_succ]
      refine takeO (i := 8) (v := ?_) (by kernel_rfl) (by kernel_rfl) (by kernel_rfl) (fun c a d v w h => by cases d <;> exact h) (oi := ?_) ?_ ?_ (by assumption) ?_
      rotate_left 2
      · (simp only [List.getElem?_toArray, List.getElem?_cons_succ, List.getElem?_cons_zero]; rfl)
      · (refine Or.inl ⟨by rfl, ?_⟩; intro w hSw; (try dsimp only at hSw); go_simp; try with_reducible rfl)
      try simp only [Act.put, List.setIfInBounds_toArray, List.set_cons_zero, List.set_cons_succ]
      refine takeO (i := 9) (v := ?_) (by kernel_rfl) (by kernel_rfl) (by kernel_rfl) (fun c a d v w h => by cases d <;> exact h) (oi := ?_) ?_ ?_ (by assumption) ?_
      rotate_left 2
      · (simp only [List.getElem?_toArray, List.getElem?_cons_succ, List.getElem?_cons_zero]; rfl)
      · (refine Or.inl ⟨by rfl, ?_⟩; intro w hSw; (try dsimp only at hSw); go_simp; try with_reducible rfl)
      try simp only [Act.put, List.setIfInBounds_toArray, List.set_cons_zero, List.set_cons_succ]
      refine takeO (i := 10) (v := ?_) (by kernel_rfl) (by kernel_rfl) (by kernel_rfl) (fun c a d v w h => by cases d <;> exact h) (oi := ?_) ?_ ?_ (by assumption) ?_
      rotate_left 2
      · (simp only [List.getElem?_toArray, List.getElem?_cons_succ, List.getElem?_cons_zero]; rfl)
      · (refine Or.inl ⟨by rfl, ?_⟩; intro w hSw; (try dsimp only at hSw); go_simp; try with_reducible rfl)
      try simp only [Act.put, List.setIfInBounds_toArray, List.set_cons_zero, List.set_cons_succ]
      refine takeLw (i := 12) (by kernel_rfl) (by kernel_rfl) (by kernel_rfl) (fun c a d v w h => by cases d <;> exact h) (oi := ?_) ?_ ?_ _ (.tmp 6) ?_ (w2.heap.size) ?_ 36 ((map16 c X L.length cx).toArray) (0, 0) _ (fun W hW => hW.1) Try.underlying36 rfl (by kernel_rfl) (by assumption) ?_
      rotate_left 1
      · (simp only [List.getElem?_toArray, List.getElem?_cons_succ, List.getElem?_cons_zero]; rfl)
      · rfl
      · rfl
      · rfl
      try simp only [Act.put, List.setIfInBounds_toArray, List.set_cons_zero, List.set_cons_succ]
      refine takeO (i := 13) (v := ?_) (by kernel_rfl) (by kernel_rfl) (by kernel_rfl) (fun c a d v w h => by cases d <;> exact h) (oi := ?_) ?_ ?_ (by assumption) ?_
      rotate_left 2
      · (simp only [List.getElem?_toArray, List.getElem?_cons_succ, List.getElem?_cons_zero]; rfl)
      · (refine Or.inl ⟨by rfl, ?_⟩; intro w hSw; (try dsimp only at hSw); go_simp; try with_reducible rfl)
      try simp only [Act.put, List.setIfInBounds_toArray, List.set_cons_zero, List.set_cons_succ]
      refine takeO (i := 14) (v := ?_) (by kernel_rfl) (by kernel_rfl) (by kernel_rfl) (fun c a d v w h => by cases d <;> exact h) (oi := ?_) ?_ ?_ (by assumption) ?_
      rotate_left 2
      · (simp only [List.getElem?_toArray, List.getElem?_cons_succ, List.getElem?_cons_zero]; rfl)
      · (refine Or.inl ⟨by rfl, ?_⟩; intro w hSw; (try dsimp only at hSw); go_simp; try with_reducible rfl)
      try simp only [Act.put, List.setIfInBounds_toArray, List.set_cons_zero, List.set_cons_succ]
      refine takeO (i := 15) (v := ?_) (by kernel_rfl) (by kernel_rfl) (by kernel_rfl) (fun c a d v w h => by cases d <;> exact h) (oi := ?_) ?_ ?_ (by assumption) ?_
      rotate_left 2
      · (simp only [List.getElem?_toArray, List.getElem?_cons_succ, List.getElem?_cons_zero]; rfl)
      · (refine Or.inl ⟨by rfl, ?_⟩; intro w hSw; (try dsimp only at hSw); go_simp; try with_reducible rfl)
      try simp only [Act.put, List.setIfInBounds_toArray, List.set_cons_zero, List.set_cons_succ]
      refine takeO (i := 16) (v := ?_) (by kernel_rfl) (by kernel_rfl) (by kernel_rfl) (fun c a d v w h => by cases d <;> exact h) (oi := ?_) ?_ ?_ (by assumption) ?_
      rotate_left 2
      · (simp only [List.getElem?_toArray, List.getElem?_cons_succ, List.getElem?_cons_zero]; rfl)
      · (refine Or.inl ⟨by rfl, ?_⟩; intro w hSw; (try dsimp only at hSw); go_simp; try with_reducible rfl)
      try simp only [Act.put, List.setIfInBounds_toArray, List.set_cons_zero, List.set_cons_succ]
      refine takeO (i := 17) (v := ?_) (by kernel_rfl) (by kernel_rfl) (by kernel_rfl) (fun c a d v w h => by cases d <;> exact h) (oi := ?_) ?_ ?_ (by assumption) ?_
      rotate_left 2
      · (simp only [List.getElem?_toArray, List.getElem?_cons_succ, List.getElem?_cons_zero]; rfl)
      · (refine Or.inl ⟨by rfl, ?_⟩; intro w hSw; (try dsimp only at hSw); go_simp; try with_reducible rfl)
      try simp only [Act.put, List.setIfInBounds_toArray, List.set_cons_zero, List.set_cons_succ]
      refine takeO (i := 18) (v := ?_) (by kernel_rfl) (by kernel_rfl) (by kernel_rfl) (fun c a d v w h => by cases d <;> exact h) (oi := ?_) ?_ ?_ (by assumption) ?_
      rotate_left 2
      · (simp only [List.getElem?_toArray, List.getElem?_cons_succ, List.getElem?_cons_zero]; rfl)
      · (refine Or.inl ⟨by rfl, ?_⟩; intro w hSw; (try dsimp only at hSw); go_simp; try with_reducible rfl)
      try simp only [Act.put, List.setIfInBounds_toArray, List.set_cons_zero, List.set_cons_succ]
      refine takeO (i := 19) (v := ?_) (by kernel_rfl) (by kernel_rfl) (by kernel_rfl) (fun c a d v w h => by cases d <;> exact h) (oi := ?_) ?_ ?_ (by assumption) ?_
      rotate_left 2
      · (simp only [List.getElem?_toArray, List.getElem?_cons_succ, List.getElem?_cons_zero]; rfl)
      · (refine Or.inl ⟨by rfl, ?_⟩; intro w hSw; (try dsimp only at hSw); go_simp; try with_reducible rfl)
      try simp only [Act.put, List.setIfInBounds_toArray, List.set_cons_zero, List.set_cons_succ]
      refine takeO (i := 20) (v := ?_) (by kernel_rfl) (by kernel_rfl) (by kernel_rfl) (fun c a d v w h => by cases d <;> exact h) (oi := ?_) ?_ ?_ (by assumption) ?_
      rotate_left 2
      · (simp only [List.getElem?_toArray, List.getElem?_cons_succ, List.getElem?_cons_zero]; rfl)
      · (refine Or.inl ⟨by rfl, ?_⟩; intro w hSw; (try dsimp only at hSw); go_simp; try with_reducible rfl)
      try simp only [Act.put, List.setIfInBounds_toArray, List.set_cons_zero, List.set_cons_succ]
      refine wpAnyH_ready (rs := [11]) (by kernel_rfl) (by simp) ?_
      refine AllReadyH.cons rfl (fun K hK => ?_) AllReadyH.nil
      go_simp
      refine (HPR.out _ ((Keep.refl _ _).drew)).mono ?_
      rintro e w5 ⟨B5, d5, rfl, hs5, hd5, hk5⟩
      have hk5b : Keep (fun i => i = sb) w3 w5 := (Keep.refl _ _).drew.trans hk5 (fun _ _ e => e)
      have HK5 := hid hk5b
      have HS5 := hid (hs5.wide (Av' := fun _ => False) (fun _ _ f => f.elim))
      clear hk5 hk5b hs5 hd5
      refine hK.out _ _ (HSALL.out _ HK5.out) (fun hHeld1 => ?_)
      clear hK K
      try simp only [Act.put, List.setIfInBounds_toArray, List.set_cons_zero, List.set_cons_succ]
      refine wpAnyH_ready (rs := [21]) (by kernel_rfl) (by simp) ?_
      refine AllReadyH.cons rfl (fun K hK => ?_) AllReadyH.nil
      go_simp
      refine (HWA.out _ HK5.out).mono ?_
      rintro e w6 ⟨B6, d6, rfl, hs6, hk6⟩
      have hk6b : Keep (fun i => i = sb) w3 w6 := HK5.out.then hk6
      have HK6 := hid hk6b
      have HS6 := hid (hs6.wide (Av' := fun _ => False) (fun _ _ f => f.elim))
      have HS56 := hid (HS5.out.same hk6)
      clear hk6 hk6b hs6
      refine hK.out _ _ (HSALL.out _ HK6.out) (fun hHeld2 => ?_)
      clear hK K
      try simp only [Act.put, List.setIfInBounds_toArray, List.set_cons_zero, List.set_cons_succ]
      refine wpAnyH_ready (rs := [22]) (by kernel_rfl) (by simp) ?_
      refine AllReadyH.cons rfl (fun K hK => ?_) AllReadyH.nil
      go_simp
      refine ((commands_eq _ B5 B6 d5 d6 ce PK HS56.out HS6.out HPK.out)).mono ?_
      rintro e w7 ⟨rfl, hk7⟩
      have HK7 := hid (HK6.out.then hk7)
      clear hk7
      refine hK.out _ _ (HSALL.out _ HK7.out) (fun hHeld3 => ?_)
      clear hK K
      try simp only [Act.put, List.setIfInBounds_toArray, List.set_cons_zero, List.set_cons_succ]
      refine takeO (i := 23) (v := ?_) (by kernel_rfl) (by kernel_rfl) (by kernel_rfl) (fun c a d v w h => by cases d <;> exact h) (oi := ?_) ?_ ?_ (by assumption) ?_
      rotate_left 2
      · (simp only [List.getElem?_toArray, List.getElem?_cons_succ, List.getElem?_cons_zero]; rfl)
      · (refine Or.inl ⟨by rfl, ?_⟩; intro w hSw; (try dsimp only at hSw); go_simp; try with_reducible rfl)
      try simp only [Act.put, List.setIfInBounds_toArray, List.set_cons_zero, List.set_cons_succ]
      refine takeO (i := 24) (v := ?_) (by kernel_rfl) (by kernel_rfl) (by kernel_rfl) (fun c a d v w h => by cases d <;> exact h) (oi := ?_) ?_ ?_ (by assumption) ?_
      rotate_left 2
      · (simp only [List.getElem?_toArray, List.getElem?_cons_succ, List.getElem?_cons_zero]; rfl)
      · (refine Or.inl ⟨by rfl, ?_⟩; intro w hSw; (try dsimp only at hSw); go_simp; try with_reducible rfl)
      try simp only [Act.put, List.setIfInBounds_toArray, List.set_cons_zero, List.set_cons_succ]
      refine wpAnyH_ready (rs := [25]) (by kernel_rfl) (by simp) ?_
      refine AllReadyH.cons rfl (fun K hK => ?_) AllReadyH.nil
      go_simp
      refine (HAW.out _).mono ?_
      rintro e w8 ⟨rfl, hk8⟩
      have HK8 := hid (HK7.out.then hk8)
      clear hk8
      refine hK.out _ _ (HSALL.out _ HK8.out) (fun hHeld4 => ?_)
      clear hK K
      try simp only [Act.put, List.setIfInBounds_toArray, List.set_cons_zero, List.set_cons_succ]
      refine takeO (i := 26) (v := ?_) (by kernel_rfl) (by kernel_rfl) (by kernel_rfl) (fun c a d v w h => by cases d <;> exact h) (oi := ?_) ?_ ?_ (by assumption) ?_
      rotate_left 2
      · (simp only [List.getElem?_toArray, List.getElem?_cons_succ, List.getElem?_cons_zero]; rfl)
      · (refine Or.inl ⟨by rfl, ?_⟩; intro w hSw; (try dsimp only at hSw); go_simp; try with_reducible rfl)
      try simp only [Act.put, List.setIfInBounds_toArray, List.set_cons_zero, List.set_cons_succ]
      refine takeO (i := 27) (v := ?_) (by kernel_rfl) (by kernel_rfl) (by kernel_rfl) (fun c a d v w h => by cases d <;> exact h) (oi := ?_) ?_ ?_ (by assumption) ?_
      rotate_left 2
      · (simp only [List.getElem?_toArray, List.getElem?_cons_succ, List.getElem?_cons_zero]; rfl)
      · (refine Or.inl ⟨by rfl, ?_⟩; intro w hSw; (try dsimp only at hSw); go_simp; try with_reducible rfl)
      try simp only [Act.put, List.setIfInBounds_toArray, List.set_cons_zero, List.set_cons_succ]
      refine wpAnyH_done (by kernel_rfl) ?_ _
      go_wp2_with fail
      go_ret
      exact ⟨rfl, HK3.out.trans HK8.out (fun i hi e => by have e2 : i = sb := e; have h1 := HL.out; omega)⟩
end Go.Proofs.Ytmkcphhgimlkgaa

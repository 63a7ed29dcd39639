import Derived.Test.YtmkcphhgimlkgaaDpW
import Derived.Test.YtmkcphhgimlkgaaDiL
import Derived.Test.YtmkcphhgimlkgaaDlS
import Derived.Test.YtmkcphhgimlkgaaRegT
import Derived.Deep.MidRow
import Derived.Deep.RegionHeld3
import Derived.Deep.CutRange
namespace Go.Proofs.Ytmkcphhgimlkgaa
open Go.RowKit

set_option maxRecDepth 100000 in
set_option maxHeartbeats 1000000 in
theorem commands_eq (w : World) (A B : Option Addr) (ca cb : Nat) (ce : Int) (L : List (Int × Int × Int)) (hA : Sl w (fun _ => False) 19 A L.length (cmds ce L)) (hB : Sl w (fun _ => False) 19 B L.length (cmds ce L)) (hn : L.length ≤ 64) :
    Calls Try.prog 12 #[.slice A L.length ca, .slice B L.length cb] w fun e w' => e = .returned (.bool true) ∧ Same w w' := by
  have HA := hid (fun W (hk : Same w W) => hA.same hk)
  have HB := hid (fun W (hk : Same w W) => hB.same hk)
  clear hA hB
  go_enter Try.func12, Try.ntmps12
  go_wp2_with fail
  go_loopw [15] (fun i wr => ∃ k : Nat, k ≤ L.length ∧ i = .int .i64 k ∧ Hid (Same w wr)) (fun i _ => L.length - (RowKit.intOf i).toNat)
  case atStart => exact ⟨0, by omega, rfl, hid (Keep.refl _ _)⟩
  case round =>
    obtain ⟨k, hk, rfl, HI⟩ := hrel
    by_cases hlt : k < L.length
    · obtain ⟨x, hx⟩ := get_some hlt
      obtain ⟨b1, o1, rfl, r1⟩ := cmds_row (HA.out wr HI.out) hx
      obtain ⟨b2, o2, rfl, r2⟩ := cmds_row (HB.out wr HI.out) hx
      have hk1 : (k : Int) < (L.length : Int) := by omega
      have HR1 := hid (fun W (hk : Same wr W) => range_same r1 hk)
      have HR2 := hid (fun W (hk : Same wr W) => range_same r2 hk)
      clear r1 r2 hx
      go_upto_region 6 with fail
      refine wp_region_held_drew (S := fun W => W.rangeAt b1 (o1 + k * 19) (cmdV x.1 x.2.1 ce x.2.2) ∧ W.rangeAt b2 (o2 + k * 19) (cmdV x.1 x.2.1 ce x.2.2)) (by kernel_rfl) ⟨HR1.out _ (Keep.refl _ _).drew, HR2.out _ (Keep.refl _ _).drew⟩ (fun hHeld => ?_)
      refine takeO (i := 0) (v := ?_) (by kernel_rfl) (by kernel_rfl) (by kernel_rfl) (fun c a d v w h => by cases d <;> exact h) (oi := ?_) ?_ ?_ (by assumption) ?_
      rotate_left 2
      · (simp only [List.getElem?_toArray, List.getElem?_cons_zero]; rfl)
      · (refine Or.inl ⟨by rfl, ?_⟩; intro w hSw; (try dsimp only at hSw); go_simp; try with_reducible rfl)
      try simp only [Act.put, List.setIfInBounds_toArray, List.set_cons_zero, List.set_cons_succ]
      refine takeO (i := 1) (v := ?_) (by kernel_rfl) (by kernel_rfl) (by kernel_rfl) (fun c a d v w h => by cases d <;> exact h) (oi := ?_) ?_ ?_ (by assumption) ?_
      rotate_left 2
      · (simp only [List.getElem?_toArray, List.getElem?_cons_succ, List.getElem?_cons_zero]; rfl)
      · (refine Or.inl ⟨by rfl, ?_⟩; intro w hSw; (try dsimp only at hSw); go_simp; try with_reducible rfl)
      try simp only [Act.put, List.setIfInBounds_toArray, List.set_cons_zero, List.set_cons_succ]
      refine takeO (i := 2) (v := ?_) (by kernel_rfl) (by kernel_rfl) (by kernel_rfl) (fun c a d v w h => by cases d <;> exact h) (oi := ?_) ?_ ?_ (by assumption) ?_
      rotate_left 2
      · (simp only [List.getElem?_toArray, List.getElem?_cons_succ, List.getElem?_cons_zero]; rfl)
      · (refine Or.inl ⟨by rfl, ?_⟩; intro w hSw; (try dsimp only at hSw); go_simp; try with_reducible rfl)
      try simp only [Act.put, List.setIfInBounds_toArray, List.set_cons_zero, List.set_cons_succ]
      refine takeO (i := 4) (v := ?_) (by kernel_rfl) (by kernel_rfl) (by kernel_rfl) (fun c a d v w h => by cases d <;> exact h) (oi := ?_) ?_ ?_ (by assumption) ?_
      rotate_left 2
      · (simp only [List.getElem?_toArray, List.getElem?_cons_succ, List.getElem?_cons_zero]; rfl)
      · (refine Or.inl ⟨by rfl, ?_⟩; intro w hSw; (try dsimp only at hSw); go_simp; try with_reducible rfl)
      try simp only [Act.put, List.setIfInBounds_toArray, List.set_cons_zero, List.set_cons_succ]
      refine takeO (i := 5) (v := ?_) (by kernel_rfl) (by kernel_rfl) (by kernel_rfl) (fun c a d v w h => by cases d <;> exact h) (oi := ?_) ?_ ?_ (by assumption) ?_
      rotate_left 2
      · (simp only [List.getElem?_toArray, List.getElem?_cons_succ, List.getElem?_cons_zero]; rfl)
      · (refine Or.inl ⟨by rfl, ?_⟩; intro w hSw; (try dsimp only at hSw); go_simp; try with_reducible rfl)
      try simp only [Act.put, List.setIfInBounds_toArray, List.set_cons_zero, List.set_cons_succ]
      refine takeO (i := 6) (v := ?_) (by kernel_rfl) (by kernel_rfl) (by kernel_rfl) (fun c a d v w h => by cases d <;> exact h) (oi := ?_) ?_ ?_ (by assumption) ?_
      rotate_left 2
      · (simp only [List.getElem?_toArray, List.getElem?_cons_succ, List.getElem?_cons_zero]; rfl)
      · (refine Or.inl ⟨by rfl, ?_⟩; intro w hSw; (try dsimp only at hSw); go_simp; try with_reducible rfl)
      try simp only [Act.put, List.setIfInBounds_toArray, List.set_cons_zero, List.set_cons_succ]
      refine takeM (i := 3) (by kernel_rfl) (by kernel_rfl) (by kernel_rfl) (fun c a d v w h => by cases d <;> exact h) (oi := ?_) ?_ _ (.tmp 20) ?_ ?_ (b1) (o1 + k * 19) ?_ ((cmdV x.1 x.2.1 ce x.2.2)) _ (fun W hW => hW.1) Try.underlying52 rfl (by kernel_rfl) (by assumption) ?_
      rotate_left 1
      · (simp only [List.getElem?_toArray, List.getElem?_cons_succ, List.getElem?_cons_zero]; rfl)
      · rfl
      · rfl
      · rfl
      try simp only [Act.put, List.setIfInBounds_toArray, List.set_cons_zero, List.set_cons_succ]
      refine takeM (i := 7) (by kernel_rfl) (by kernel_rfl) (by kernel_rfl) (fun c a d v w h => by cases d <;> exact h) (oi := ?_) ?_ _ (.tmp 24) ?_ ?_ (b2) (o2 + k * 19) ?_ ((cmdV x.1 x.2.1 ce x.2.2)) _ (fun W hW => hW.2) Try.underlying52 rfl (by kernel_rfl) (by assumption) ?_
      rotate_left 1
      · (simp only [List.getElem?_toArray, List.getElem?_cons_succ, List.getElem?_cons_zero]; rfl)
      · rfl
      · rfl
      · rfl
      try simp only [Act.put, List.setIfInBounds_toArray, List.set_cons_zero, List.set_cons_succ]
      clear hHeld
      apply one_rest (F := (fun g h W => Same wr W ∧ Blk W g 52 (cmdV x.1 x.2.1 ce x.2.2).toArray ∧ Blk W h 52 (cmdV x.1 x.2.1 ce x.2.2).toArray))
      case main =>
        intro REST
        have hkd : Same wr wr.drew := (Keep.refl _ _).drew
        generalize wr.drew = wd at *
        refine wpAnyH_ready (rs := [8, 9]) (by kernel_rfl) (by simp) ?_
        refine AllReadyH.cons rfl (fun K hK => ?_) (AllReadyH.cons rfl (fun K hK => ?_) AllReadyH.nil)
        · go_simp
          have hb1 := Blk.made (wd) 52 #[.int .i64 0, .int .i64 0, .int .i64 0, .int .i64 0, .int .i64 0, .string ⟨#[]⟩, .slice none 0 0, .int .i64 0, .int .i64 0, .int .i64 0, .int .i64 0, .int .i64 0, .int .i64 0, .int .i64 0, .int .i64 0, .int .i64 0, .int .i64 0, .int .i64 0, .int .i64 0]
          have hk1 : Same (wd) ((wd).alloc (.cells #[.int .i64 0, .int .i64 0, .int .i64 0, .int .i64 0, .int .i64 0, .string ⟨#[]⟩, .slice none 0 0, .int .i64 0, .int .i64 0, .int .i64 0, .int .i64 0, .int .i64 0, .int .i64 0, .int .i64 0, .int .i64 0, .int .i64 0, .int .i64 0, .int .i64 0, .int .i64 0] 52)) := (Keep.refl _ _).alloc _
          obtain ⟨g1, hg1⟩ : ∃ g, g = (wd).heap.size := ⟨_, rfl⟩
          rw [← hg1] at hb1 ⊢
          have hlo1 : (wd).heap.size ≤ g1 := by omega
          clear hg1
          generalize ((wd).alloc (.cells #[.int .i64 0, .int .i64 0, .int .i64 0, .int .i64 0, .int .i64 0, .string ⟨#[]⟩, .slice none 0 0, .int .i64 0, .int .i64 0, .int .i64 0, .int .i64 0, .int .i64 0, .int .i64 0, .int .i64 0, .int .i64 0, .int .i64 0, .int .i64 0, .int .i64 0, .int .i64 0] 52)) = w1 at *
          have hK1 : Same wr w1 := ((hkd).then hk1)
          have hlow_g1 : wr.heap.size ≤ g1 := Nat.le_trans (hkd).size hlo1
          have hB1_8 := hb1
          refine hK.out _ _ ⟨HR1.out _ hK1, HR2.out _ hK1⟩ (fun hHeld1 => ?_)
          clear hK K
          try simp only [Act.put, List.setIfInBounds_toArray, List.set_cons_zero, List.set_cons_succ]
          refine wpAnyH_ready (rs := [9]) (by kernel_rfl) (by simp) ?_
          refine AllReadyH.cons rfl (fun K hK => ?_) AllReadyH.nil
          go_simp
          have hb2 := Blk.made (w1) 52 #[.int .i64 0, .int .i64 0, .int .i64 0, .int .i64 0, .int .i64 0, .string ⟨#[]⟩, .slice none 0 0, .int .i64 0, .int .i64 0, .int .i64 0, .int .i64 0, .int .i64 0, .int .i64 0, .int .i64 0, .int .i64 0, .int .i64 0, .int .i64 0, .int .i64 0, .int .i64 0]
          have hk2 : Same (w1) ((w1).alloc (.cells #[.int .i64 0, .int .i64 0, .int .i64 0, .int .i64 0, .int .i64 0, .string ⟨#[]⟩, .slice none 0 0, .int .i64 0, .int .i64 0, .int .i64 0, .int .i64 0, .int .i64 0, .int .i64 0, .int .i64 0, .int .i64 0, .int .i64 0, .int .i64 0, .int .i64 0, .int .i64 0] 52)) := (Keep.refl _ _).alloc _
          obtain ⟨g2, hg2⟩ : ∃ g, g = (w1).heap.size := ⟨_, rfl⟩
          rw [← hg2] at hb2 ⊢
          have hlo2 : (w1).heap.size ≤ g2 := by omega
          clear hg2
          generalize ((w1).alloc (.cells #[.int .i64 0, .int .i64 0, .int .i64 0, .int .i64 0, .int .i64 0, .string ⟨#[]⟩, .slice none 0 0, .int .i64 0, .int .i64 0, .int .i64 0, .int .i64 0, .int .i64 0, .int .i64 0, .int .i64 0, .int .i64 0, .int .i64 0, .int .i64 0, .int .i64 0, .int .i64 0] 52)) = w2 at *
          have hK2 : Same wr w2 := ((hK1).then hk2)
          have hlow_g2 : wr.heap.size ≤ g2 := Nat.le_trans (hK1).size hlo2
          have hne_g1_g2 : g1 ≠ g2 := by have := (hB1_8).lt; omega
          have hne_g2_g1 : g2 ≠ g1 := fun e => hne_g1_g2 e.symm
          have hB2_8 := ((hB1_8).keep hk2 (fun f => f))
          have hB2_9 := hb2
          refine hK.out _ _ ⟨HR1.out _ hK2, HR2.out _ hK2⟩ (fun hHeld2 => ?_)
          clear hK K
          try simp only [Act.put, List.setIfInBounds_toArray, List.set_cons_zero, List.set_cons_succ]
          refine wpAnyH_ready (rs := [10]) (by kernel_rfl) (by simp) ?_
          refine AllReadyH.cons rfl (fun K hK => ?_) AllReadyH.nil
          refine store_step rfl _ (.tmp 6) (.tmp 21) rfl (g1) ((cmdV x.1 x.2.1 ce x.2.2).toArray) rfl rfl 52 _ (hB2_8) (by kernel_rfl) rfl (one_toArray (cmdV_one _ _ _ _)) ?_
          have hb3 := (hB2_8).row (cmdV x.1 x.2.1 ce x.2.2).toArray
          have hk3 := Keep.row (w2) (g1) (cmdV x.1 x.2.1 ce x.2.2).toArray
          generalize ((w2).setRow (g1) (cmdV x.1 x.2.1 ce x.2.2).toArray) = w3 at *
          have hK3 : Same wr w3 := ((hK2).trans hk3 (fun i hi e => by have e2 : i = g1 := e; have := hlow_g1; omega))
          have hB3_8 := hb3
          have hB3_9 := ((hB2_9).keep hk3 (hne_g2_g1))
          refine hK.out _ _ ⟨HR1.out _ hK3, HR2.out _ hK3⟩ (fun hHeld3 => ?_)
          clear hK K
          try simp only [Act.put, List.setIfInBounds_toArray, List.set_cons_zero, List.set_cons_succ]
          refine wpAnyH_ready (rs := [11]) (by kernel_rfl) (by simp) ?_
          refine AllReadyH.cons rfl (fun K hK => ?_) AllReadyH.nil
          refine store_step rfl _ (.tmp 7) (.tmp 25) rfl (g2) ((cmdV x.1 x.2.1 ce x.2.2).toArray) rfl rfl 52 _ (hB3_9) (by kernel_rfl) rfl (one_toArray (cmdV_one _ _ _ _)) ?_
          have hb4 := (hB3_9).row (cmdV x.1 x.2.1 ce x.2.2).toArray
          have hk4 := Keep.row (w3) (g2) (cmdV x.1 x.2.1 ce x.2.2).toArray
          generalize ((w3).setRow (g2) (cmdV x.1 x.2.1 ce x.2.2).toArray) = w4 at *
          have hK4 : Same wr w4 := ((hK3).trans hk4 (fun i hi e => by have e2 : i = g2 := e; have := hlow_g2; omega))
          have hB4_8 := ((hB3_8).keep hk4 (hne_g1_g2))
          have hB4_9 := hb4
          refine hK.out _ _ ⟨HR1.out _ hK4, HR2.out _ hK4⟩ (fun hHeld4 => ?_)
          clear hK K
          try simp only [Act.put, List.setIfInBounds_toArray, List.set_cons_zero, List.set_cons_succ]
          have hF5 : (fun g h W => Same wr W ∧ Blk W g 52 (cmdV x.1 x.2.1 ce x.2.2).toArray ∧ Blk W h 52 (cmdV x.1 x.2.1 ce x.2.2).toArray) (g1) (g2) (w4) := ⟨hK4, hB4_8, hB4_9⟩
          refine wpAnyH_done (by kernel_rfl) ?_ _
          exact REST (g1) (g2) (w4) hF5
        · go_simp
          have hb6 := Blk.made (wd) 52 #[.int .i64 0, .int .i64 0, .int .i64 0, .int .i64 0, .int .i64 0, .string ⟨#[]⟩, .slice none 0 0, .int .i64 0, .int .i64 0, .int .i64 0, .int .i64 0, .int .i64 0, .int .i64 0, .int .i64 0, .int .i64 0, .int .i64 0, .int .i64 0, .int .i64 0, .int .i64 0]
          have hk6 : Same (wd) ((wd).alloc (.cells #[.int .i64 0, .int .i64 0, .int .i64 0, .int .i64 0, .int .i64 0, .string ⟨#[]⟩, .slice none 0 0, .int .i64 0, .int .i64 0, .int .i64 0, .int .i64 0, .int .i64 0, .int .i64 0, .int .i64 0, .int .i64 0, .int .i64 0, .int .i64 0, .int .i64 0, .int .i64 0] 52)) := (Keep.refl _ _).alloc _
          obtain ⟨g6, hg6⟩ : ∃ g, g = (wd).heap.size := ⟨_, rfl⟩
          rw [← hg6] at hb6 ⊢
          have hlo6 : (wd).heap.size ≤ g6 := by omega
          clear hg6
          generalize ((wd).alloc (.cells #[.int .i64 0, .int .i64 0, .int .i64 0, .int .i64 0, .int .i64 0, .string ⟨#[]⟩, .slice none 0 0, .int .i64 0, .int .i64 0, .int .i64 0, .int .i64 0, .int .i64 0, .int .i64 0, .int .i64 0, .int .i64 0, .int .i64 0, .int .i64 0, .int .i64 0, .int .i64 0] 52)) = w6 at *
          have hK6 : Same wr w6 := ((hkd).then hk6)
          have hlow_g6 : wr.heap.size ≤ g6 := Nat.le_trans (hkd).size hlo6
          have hB6_9 := hb6
          refine hK.out _ _ ⟨HR1.out _ hK6, HR2.out _ hK6⟩ (fun hHeld6 => ?_)
          clear hK K
          try simp only [Act.put, List.setIfInBounds_toArray, List.set_cons_zero, List.set_cons_succ]
          refine wpAnyH_ready (rs := [8]) (by kernel_rfl) (by simp) ?_
          refine AllReadyH.cons rfl (fun K hK => ?_) AllReadyH.nil
          go_simp
          have hb7 := Blk.made (w6) 52 #[.int .i64 0, .int .i64 0, .int .i64 0, .int .i64 0, .int .i64 0, .string ⟨#[]⟩, .slice none 0 0, .int .i64 0, .int .i64 0, .int .i64 0, .int .i64 0, .int .i64 0, .int .i64 0, .int .i64 0, .int .i64 0, .int .i64 0, .int .i64 0, .int .i64 0, .int .i64 0]
          have hk7 : Same (w6) ((w6).alloc (.cells #[.int .i64 0, .int .i64 0, .int .i64 0, .int .i64 0, .int .i64 0, .string ⟨#[]⟩, .slice none 0 0, .int .i64 0, .int .i64 0, .int .i64 0, .int .i64 0, .int .i64 0, .int .i64 0, .int .i64 0, .int .i64 0, .int .i64 0, .int .i64 0, .int .i64 0, .int .i64 0] 52)) := (Keep.refl _ _).alloc _
          obtain ⟨g7, hg7⟩ : ∃ g, g = (w6).heap.size := ⟨_, rfl⟩
          rw [← hg7] at hb7 ⊢
          have hlo7 : (w6).heap.size ≤ g7 := by omega
          clear hg7
          generalize ((w6).alloc (.cells #[.int .i64 0, .int .i64 0, .int .i64 0, .int .i64 0, .int .i64 0, .string ⟨#[]⟩, .slice none 0 0, .int .i64 0, .int .i64 0, .int .i64 0, .int .i64 0, .int .i64 0, .int .i64 0, .int .i64 0, .int .i64 0, .int .i64 0, .int .i64 0, .int .i64 0, .int .i64 0] 52)) = w7 at *
          have hK7 : Same wr w7 := ((hK6).then hk7)
          have hlow_g7 : wr.heap.size ≤ g7 := Nat.le_trans (hK6).size hlo7
          have hne_g6_g7 : g6 ≠ g7 := by have := (hB6_9).lt; omega
          have hne_g7_g6 : g7 ≠ g6 := fun e => hne_g6_g7 e.symm
          have hB7_9 := ((hB6_9).keep hk7 (fun f => f))
          have hB7_8 := hb7
          refine hK.out _ _ ⟨HR1.out _ hK7, HR2.out _ hK7⟩ (fun hHeld7 => ?_)
          clear hK K
          try simp only [Act.put, List.setIfInBounds_toArray, List.set_cons_zero, List.set_cons_succ]
          refine wpAnyH_ready (rs := [10]) (by kernel_rfl) (by simp) ?_
          refine AllReadyH.cons rfl (fun K hK => ?_) AllReadyH.nil
          refine store_step rfl _ (.tmp 6) (.tmp 21) rfl (g7) ((cmdV x.1 x.2.1 ce x.2.2).toArray) rfl rfl 52 _ (hB7_8) (by kernel_rfl) rfl (one_toArray (cmdV_one _ _ _ _)) ?_
          have hb8 := (hB7_8).row (cmdV x.1 x.2.1 ce x.2.2).toArray
          have hk8 := Keep.row (w7) (g7) (cmdV x.1 x.2.1 ce x.2.2).toArray
          generalize ((w7).setRow (g7) (cmdV x.1 x.2.1 ce x.2.2).toArray) = w8 at *
          have hK8 : Same wr w8 := ((hK7).trans hk8 (fun i hi e => by have e2 : i = g7 := e; have := hlow_g7; omega))
          have hB8_9 := ((hB7_9).keep hk8 (hne_g6_g7))
          have hB8_8 := hb8
          refine hK.out _ _ ⟨HR1.out _ hK8, HR2.out _ hK8⟩ (fun hHeld8 => ?_)
          clear hK K
          try simp only [Act.put, List.setIfInBounds_toArray, List.set_cons_zero, List.set_cons_succ]
          refine wpAnyH_ready (rs := [11]) (by kernel_rfl) (by simp) ?_
          refine AllReadyH.cons rfl (fun K hK => ?_) AllReadyH.nil
          refine store_step rfl _ (.tmp 7) (.tmp 25) rfl (g6) ((cmdV x.1 x.2.1 ce x.2.2).toArray) rfl rfl 52 _ (hB8_9) (by kernel_rfl) rfl (one_toArray (cmdV_one _ _ _ _)) ?_
          have hb9 := (hB8_9).row (cmdV x.1 x.2.1 ce x.2.2).toArray
          have hk9 := Keep.row (w8) (g6) (cmdV x.1 x.2.1 ce x.2.2).toArray
          generalize ((w8).setRow (g6) (cmdV x.1 x.2.1 ce x.2.2).toArray) = w9 at *
          have hK9 : Same wr w9 := ((hK8).trans hk9 (fun i hi e => by have e2 : i = g6 := e; have := hlow_g6; omega))
          have hB9_9 := hb9
          have hB9_8 := ((hB8_8).keep hk9 (hne_g7_g6))
          refine hK.out _ _ ⟨HR1.out _ hK9, HR2.out _ hK9⟩ (fun hHeld9 => ?_)
          clear hK K
          try simp only [Act.put, List.setIfInBounds_toArray, List.set_cons_zero, List.set_cons_succ]
          have hF10 : (fun g h W => Same wr W ∧ Blk W g 52 (cmdV x.1 x.2.1 ce x.2.2).toArray ∧ Blk W h 52 (cmdV x.1 x.2.1 ce x.2.2).toArray) (g7) (g6) (w9) := ⟨hK9, hB9_8, hB9_9⟩
          refine wpAnyH_done (by kernel_rfl) ?_ _
          exact REST (g7) (g6) (w9) hF10
      case rest =>
        intro g h W0 hF
        obtain ⟨hW0, hg0, hh0⟩ := hF
        have HS2 := hid (fun W (hk : Same W0 W) => (show W.cell? ⟨g, 6, none⟩ = some (.slice none 0 0) ∧ W.cell? ⟨g, 0, none⟩ = some (.int .i64 x.1) ∧ W.cell? ⟨g, 1, none⟩ = some (.int .i64 0) ∧ W.cell? ⟨g, 2, none⟩ = some (.int .i64 0) ∧ W.cell? ⟨g, 3, none⟩ = some (.int .i64 0) ∧ W.cell? ⟨g, 4, none⟩ = some (.int .i64 0) ∧ W.cell? ⟨g, 5, none⟩ = some (.string ⟨#[]⟩) ∧ W.cell? ⟨g, 7, none⟩ = some (.int .i64 x.2.1) ∧ W.cell? ⟨g, 8, none⟩ = some (.int .i64 ce) ∧ W.cell? ⟨g, 9, none⟩ = some (.int .i64 x.2.2) ∧ W.cell? ⟨g, 10, none⟩ = some (.int .i64 0) ∧ W.cell? ⟨g, 11, none⟩ = some (.int .i64 0) ∧ W.cell? ⟨g, 12, none⟩ = some (.int .i64 0) ∧ W.cell? ⟨g, 13, none⟩ = some (.int .i64 0) ∧ W.cell? ⟨g, 14, none⟩ = some (.int .i64 0) ∧ W.cell? ⟨g, 15, none⟩ = some (.int .i64 0) ∧ W.cell? ⟨g, 16, none⟩ = some (.int .i64 0) ∧ W.cell? ⟨g, 17, none⟩ = some (.int .i64 0) ∧ W.cell? ⟨g, 18, none⟩ = some (.int .i64 0) ∧ W.cell? ⟨h, 6, none⟩ = some (.slice none 0 0) ∧ W.cell? ⟨h, 0, none⟩ = some (.int .i64 x.1) ∧ W.cell? ⟨h, 1, none⟩ = some (.int .i64 0) ∧ W.cell? ⟨h, 2, none⟩ = some (.int .i64 0) ∧ W.cell? ⟨h, 3, none⟩ = some (.int .i64 0) ∧ W.cell? ⟨h, 4, none⟩ = some (.int .i64 0) ∧ W.cell? ⟨h, 5, none⟩ = some (.string ⟨#[]⟩) ∧ W.cell? ⟨h, 7, none⟩ = some (.int .i64 x.2.1) ∧ W.cell? ⟨h, 8, none⟩ = some (.int .i64 ce) ∧ W.cell? ⟨h, 9, none⟩ = some (.int .i64 x.2.2) ∧ W.cell? ⟨h, 10, none⟩ = some (.int .i64 0) ∧ W.cell? ⟨h, 11, none⟩ = some (.int .i64 0) ∧ W.cell? ⟨h, 12, none⟩ = some (.int .i64 0) ∧ W.cell? ⟨h, 13, none⟩ = some (.int .i64 0) ∧ W.cell? ⟨h, 14, none⟩ = some (.int .i64 0) ∧ W.cell? ⟨h, 15, none⟩ = some (.int .i64 0) ∧ W.cell? ⟨h, 16, none⟩ = some (.int .i64 0) ∧ W.cell? ⟨h, 17, none⟩ = some (.int .i64 0) ∧ W.cell? ⟨h, 18, none⟩ = some (.int .i64 0) from ⟨(hg0.keep hk (fun f => f)).at_ 6, (hg0.keep hk (fun f => f)).at_ 0, (hg0.keep hk (fun f => f)).at_ 1, (hg0.keep hk (fun f => f)).at_ 2, (hg0.keep hk (fun f => f)).at_ 3, (hg0.keep hk (fun f => f)).at_ 4, (hg0.keep hk (fun f => f)).at_ 5, (hg0.keep hk (fun f => f)).at_ 7, (hg0.keep hk (fun f => f)).at_ 8, (hg0.keep hk (fun f => f)).at_ 9, (hg0.keep hk (fun f => f)).at_ 10, (hg0.keep hk (fun f => f)).at_ 11, (hg0.keep hk (fun f => f)).at_ 12, (hg0.keep hk (fun f => f)).at_ 13, (hg0.keep hk (fun f => f)).at_ 14, (hg0.keep hk (fun f => f)).at_ 15, (hg0.keep hk (fun f => f)).at_ 16, (hg0.keep hk (fun f => f)).at_ 17, (hg0.keep hk (fun f => f)).at_ 18, (hh0.keep hk (fun f => f)).at_ 6, (hh0.keep hk (fun f => f)).at_ 0, (hh0.keep hk (fun f => f)).at_ 1, (hh0.keep hk (fun f => f)).at_ 2, (hh0.keep hk (fun f => f)).at_ 3, (hh0.keep hk (fun f => f)).at_ 4, (hh0.keep hk (fun f => f)).at_ 5, (hh0.keep hk (fun f => f)).at_ 7, (hh0.keep hk (fun f => f)).at_ 8, (hh0.keep hk (fun f => f)).at_ 9, (hh0.keep hk (fun f => f)).at_ 10, (hh0.keep hk (fun f => f)).at_ 11, (hh0.keep hk (fun f => f)).at_ 12, (hh0.keep hk (fun f => f)).at_ 13, (hh0.keep hk (fun f => f)).at_ 14, (hh0.keep hk (fun f => f)).at_ 15, (hh0.keep hk (fun f => f)).at_ 16, (hh0.keep hk (fun f => f)).at_ 17, (hh0.keep hk (fun f => f)).at_ 18⟩))
        have HW0 := hid hW0
        clear hW0 hg0 hh0
        go_upto_region 7 with fail
        obtain ⟨xg6, xg0, xg1, xg2, xg3, xg4, xg5, xg7, xg8, xg9, xg10, xg11, xg12, xg13, xg14, xg15, xg16, xg17, xg18, xh6, xh0, xh1, xh2, xh3, xh4, xh5, xh7, xh8, xh9, xh10, xh11, xh12, xh13, xh14, xh15, xh16, xh17, xh18⟩ := HS2.out W0 (Keep.refl _ _)
        go_wp2_with fail
        refine (numbers_eq _ none none 0 0 [] (Sl.nil _ _ _ _) (Sl.nil _ _ _ _) (by simp)).mono ?_
        rintro e w9 ⟨rfl, hk9⟩
        have HK9 := hid (HW0.out.then hk9)
        clear xg6 xg0 xg1 xg2 xg3 xg4 xg5 xg7 xg8 xg9 xg10 xg11 xg12 xg13 xg14 xg15 xg16 xg17 xg18 xh6 xh0 xh1 xh2 xh3 xh4 xh5 xh7 xh8 xh9 xh10 xh11 xh12 xh13 xh14 xh15 xh16 xh17 xh18
        obtain ⟨xg6, xg0, xg1, xg2, xg3, xg4, xg5, xg7, xg8, xg9, xg10, xg11, xg12, xg13, xg14, xg15, xg16, xg17, xg18, xh6, xh0, xh1, xh2, xh3, xh4, xh5, xh7, xh8, xh9, xh10, xh11, xh12, xh13, xh14, xh15, xh16, xh17, xh18⟩ := HS2.out w9 hk9
        clear hk9
        go_wp2_with fail
        go_roundw
        case rel => exact ⟨k + 1, by omega, by go_num, hid (HI.out.then HK9.out)⟩
        case measure => simp [RowKit.intOf]; omega
    · have hk1 : (L.length : Int) ≤ (k : Int) := by omega
      go_wp2_with fail
      go_ret
      exact ⟨rfl, HI.out⟩
end Go.Proofs.Ytmkcphhgimlkgaa

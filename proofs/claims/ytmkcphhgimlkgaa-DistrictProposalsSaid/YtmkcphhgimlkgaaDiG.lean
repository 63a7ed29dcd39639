import Derived.Test.YtmkcphhgimlkgaaDiE
namespace Go.Proofs.Ytmkcphhgimlkgaa
open Go.RowKit

/-! ## A command of an act; Apply -/
structure AK where
  kind : Int
  dst : Int
  cen : Int
  ep : Int
  now : Int
def AK.cells (a : AK) : List Value := [.int .i64 a.kind, .int .i64 a.dst, .int .i64 a.cen, .int .i64 a.ep, .int .i64 a.now]
/-! ## Whole rows -/
theorem Blk.row {w : World} {g : Nat} {t : TypeId} {cs : Array Value} (h : Blk w g t cs) (vs : Array Value) : Blk (w.setRow g vs) g t vs := setRow_heap w g cs vs t _ h
theorem Keep.row (w : World) (g : Nat) (vs : Array Value) : Keep (· = g) w (w.setRow g vs) :=
  ⟨rfl, rfl, rfl, by simp, fun k _ hk => setRow_other w g k _ hk⟩
theorem one_toArray {cs : List Value} (h : ∀ v ∈ cs, v.oneCell' = true) : cs.toArray.all (·.oneCell') = true := Array.all_eq_true_iff_forall_mem.2 (fun v hv => h v (by simpa using hv))
set_option maxRecDepth 100000 in
theorem command_any (w : World) (a : AK) : Calls Try.prog 32 #[.agg a.cells.toArray] w fun e w' => e = .returned (.agg (cmdV a.kind a.dst a.cen a.ep).toArray) ∧ Same w w' := by
  have hb := (Blk.made w 60 a.cells.toArray).alloc (.cells (cmdV 0 0 0 0).toArray 52)
  have hz := Blk.made (w.alloc (.cells a.cells.toArray 60)) 52 (cmdV 0 0 0 0).toArray
  rw [World.size_alloc] at hz
  have HK := hid (((Keep.refl (fun _ => False) w).alloc (.cells a.cells.toArray 60)).alloc (.cells (cmdV 0 0 0 0).toArray 52))
  have HO := hid (one_toArray (cmdV_one a.kind a.dst a.cen a.ep))
  obtain ⟨k, d, ce, ep, now⟩ := a
  simp only [AK.cells, cmdV] at *
  go_enter Try.func32, Try.ntmps32
  go_upto_region 1 with fail
  generalize ((w.alloc (.cells #[.int .i64 k, .int .i64 d, .int .i64 ce, .int .i64 ep, .int .i64 now] 60)).alloc (.cells #[.int .i64 0, .int .i64 0, .int .i64 0, .int .i64 0, .int .i64 0, .string ⟨#[]⟩, .slice none 0 0, .int .i64 0, .int .i64 0, .int .i64 0, .int .i64 0, .int .i64 0, .int .i64 0, .int .i64 0, .int .i64 0, .int .i64 0, .int .i64 0, .int .i64 0, .int .i64 0] 52)) = w1 at *
  have c0 : w1.cell? ⟨w.heap.size, 0, none⟩ = some (.int .i64 k) := hb.at_ 0
  have c1 : w1.cell? ⟨w.heap.size, 1, none⟩ = some (.int .i64 d) := hb.at_ 1
  have c2 : w1.cell? ⟨w.heap.size, 2, none⟩ = some (.int .i64 ce) := hb.at_ 2
  have c3 : w1.cell? ⟨w.heap.size, 3, none⟩ = some (.int .i64 ep) := hb.at_ 3
  have HZ := hid hz
  clear hb hz
  go_wp2_with (refine wpList_store_row rfl _ (.tmp 2) (.tmp 11) rfl (w.heap.size + 1) #[.int .i64 k, .int .i64 0, .int .i64 0, .int .i64 0, .int .i64 0, .string ⟨#[]⟩, .slice none 0 0, .int .i64 d, .int .i64 ce, .int .i64 ep, .int .i64 0, .int .i64 0, .int .i64 0, .int .i64 0, .int .i64 0, .int .i64 0, .int .i64 0, .int .i64 0, .int .i64 0] rfl rfl _ _ HZ.out (by kernel_rfl) rfl HO.out ?_)
  refine bodyPost_ret (results_cell_row rfl _ _ _ _ _ _ _ rfl (HZ.out.row _) Try.underlying52 rfl (by kernel_rfl)) rfl ⟨rfl, HK.out.trans (Keep.row _ _ _) (fun i hi e => by have e2 : i = w.heap.size + 1 := e; omega)⟩

def ApPost (w : World) (mb tb sb : Nat) (A : Option Addr) (cp : Nat) (c : CF) (r : List St × Int) (e : Ending) (w' : World) : Prop :=
  e = .returned (.int .i64 r.2) ∧ DM w' mb tb sb A cp c r.1 ∧ Keep (· = sb) w w'
section
variable (w : World) (mb tb sb : Nat) (A : Option Addr) (cp : Nat) (c : CF) (l : List St) (hD : DM w mb tb sb A cp c l)
include hD
set_option maxRecDepth 100000 in
set_option maxHeartbeats 4000000 in
theorem apply_any (kd ds ce ep now : Int) : Calls Try.prog 18 #[.pointer (some ⟨mb, 0, none⟩), .agg (cmdV kd ds ce ep).toArray, .int .i64 now] w
      (ApPost w mb tb sb A cp c (doD c.cen c.h3 l kd ds ce ep now)) := by
  have hok := doD_okl hD.ok kd ds ce ep now
  have hR : ∀ R, R = doD c.cen c.h3 l kd ds ce ep now → (inB ce c.cen = false → R = (l, 1)) ∧ (inB ce c.cen = true → kd = 8 → R = ((acqR l ds ce ep now c.h3).1, (acqR l ds ce ep now c.h3).2.2)) ∧
      (inB ce c.cen = true → kd = 9 → R = renR l ds ce ep now c.h3) ∧ (inB ce c.cen = true → kd = 10 → R = relR l ds ce ep now) ∧ (inB ce c.cen = true → kd ≠ 8 → kd ≠ 9 → kd ≠ 10 → R = (l, 1)) := by
    rintro R rfl
    refine ⟨fun h => by simp [doD, h], fun h k => by simp [doD, h, k], fun h k => by simp [doD, h, k], fun h k => by simp [doD, h, k], fun h k1 k2 k3 => by simp [doD, h, k1, k2, k3]⟩
  obtain ⟨R, hRe⟩ : ∃ R, R = doD c.cen c.h3 l kd ds ce ep now := ⟨_, rfl⟩
  obtain ⟨hr0, hr8, hr9, hr10, hrx⟩ := hR R hRe
  rw [← hRe] at hok ⊢
  have HOK := hid hok
  clear hR hRe hok
  have hb := Blk.made w 52 (cmdV kd ds ce ep).toArray
  have hw : Same w (w.alloc (.cells (cmdV kd ds ce ep).toArray 52)) := (Keep.refl _ _).alloc _
  have hl2 : w.heap.size < (w.alloc (.cells (cmdV kd ds ce ep).toArray 52)).heap.size := by simp
  have hD0 := hD.same hw
  have HD := hid hD0
  have hlt := hD.tab.row.lt
  have hn2 : ¬ w.heap.size = sb := by omega
  have hn1 : ¬ mb = sb := hD.ne.1
  have hl1 := hD0.top.lt
  have HW := hid hw
  have HR0 := hid hr0
  have HR8 := hid hr8
  have HR9 := hid hr9
  have HR10 := hid hr10
  have HRX := hid hrx
  clear hr0 hr8 hr9 hr10 hrx
  simp only [cmdV] at *
  generalize hw1 : (w.alloc (.cells #[.int .i64 kd, .int .i64 0, .int .i64 0, .int .i64 0, .int .i64 0, .string ⟨#[]⟩, .slice none 0 0, .int .i64 ds, .int .i64 ce, .int .i64 ep, .int .i64 0, .int .i64 0, .int .i64 0, .int .i64 0, .int .i64 0, .int .i64 0, .int .i64 0, .int .i64 0, .int .i64 0] 52)) = w1 at *
  have q0 : w1.cell? ⟨w.heap.size, 0, none⟩ = some (.int .i64 kd) := hb.at_ 0
  have q7 : w1.cell? ⟨w.heap.size, 7, none⟩ = some (.int .i64 ds) := hb.at_ 7
  have q8 : w1.cell? ⟨w.heap.size, 8, none⟩ = some (.int .i64 ce) := hb.at_ 8
  have q9 : w1.cell? ⟨w.heap.size, 9, none⟩ = some (.int .i64 ep) := hb.at_ 9
  have t2 : w1.cell? ⟨mb, 2, none⟩ = some (.int .i64 c.h3) := hD0.top.at_ 2
  have t3 : w1.cell? ⟨mb, 3, none⟩ = some (.pointer (some ⟨tb, 0, none⟩)) := hD0.top.at_ 3
  have HIC := hid (isCentre_any w1 mb tb sb A cp c l hD0 ce)
  have HAC := hid (fun W (hk : Same w1 W) => acq_any W tb sb l (hD0.same hk).tab ds ce ep now c.h3)
  have HRN := hid (fun W (hk : Same w1 W) => ren_any W tb sb l (hD0.same hk).tab ds ce ep now c.h3)
  have HRL := hid (fun W (hk : Same w1 W) => rel_any W tb sb l (hD0.same hk).tab ds ce ep now)
  clear hb hw hD0 hD
  cases hic : inB ce c.cen
  · have HRR := hid (HR0.out hic)
    rw [hic] at HIC
    clear hic
    go_enter Try.func18, Try.ntmps18
    go_upto_region 1 with fail
    try rw [hw1]
    go_wp2_with fail
    (with_reducible refine HIC.out.mono ?_)
    rintro e w2 ⟨rfl, rfl⟩
    go_wp2_with fail
    go_ret
    rw [HRR.out]
    exact ⟨rfl, HD.out, HW.out.wide (fun _ _ f => f.elim)⟩
  · by_cases g8 : kd = 8
    · have HRR := hid (HR8.out hic g8)
      rw [hic] at HIC
      have g8' : (kd == 8) = true := by simp [g8]
      clear g8 hic
      go_enter Try.func18, Try.ntmps18
      go_upto_region 1 with fail
      try rw [hw1]
      go_wp2_with fail
      (with_reducible refine HIC.out.mono ?_)
      rintro e w2 ⟨rfl, rfl⟩
      go_wp2_with fail
      go_region_held3 (fun W => W.cell? ⟨mb, 2, none⟩ = some (.int .i64 c.h3) ∧ W.cell? ⟨mb, 3, none⟩ = some (.pointer (some ⟨tb, 0, none⟩)) ∧ W.cell? ⟨w.heap.size, 7, none⟩ = some (.int .i64 ds) ∧ W.cell? ⟨w.heap.size, 8, none⟩ = some (.int .i64 ce) ∧ W.cell? ⟨w.heap.size, 9, none⟩ = some (.int .i64 ep))
        (first | with_reducible exact ⟨t2, t3, q7, q8, q9⟩ | with_reducible exact HS.out | go_keep)
        (first
          | (go_at_call 40
             (with_reducible refine (HAC.out _ (by first | with_reducible exact Keep.refl _ _ | with_reducible exact (Keep.refl _ _).drew)).mono ?_)
             rintro e w4 ⟨rfl, ht4, hk4⟩
             have hk5 : Keep (· = sb) w1 w4 := by first | with_reducible exact hk4 | with_reducible exact (Keep.refl _ _).drew.trans hk4 (fun _ _ e => e)
             have HT4 := hid ht4
             have HK4 := hid hk5
             have HS := hid (show w4.cell? ⟨mb, 2, none⟩ = some (.int .i64 c.h3) ∧ w4.cell? ⟨mb, 3, none⟩ = some (.pointer (some ⟨tb, 0, none⟩)) ∧ w4.cell? ⟨w.heap.size, 7, none⟩ = some (.int .i64 ds) ∧ w4.cell? ⟨w.heap.size, 8, none⟩ = some (.int .i64 ce) ∧ w4.cell? ⟨w.heap.size, 9, none⟩ = some (.int .i64 ep) from ⟨(hk5.cell (p := ⟨mb, 2, none⟩) hl1 hn1).trans t2, (hk5.cell (p := ⟨mb, 3, none⟩) hl1 hn1).trans t3, (hk5.cell (p := ⟨w.heap.size, 7, none⟩) hl2 hn2).trans q7, (hk5.cell (p := ⟨w.heap.size, 8, none⟩) hl2 hn2).trans q8, (hk5.cell (p := ⟨w.heap.size, 9, none⟩) hl2 hn2).trans q9⟩)
             clear ht4 hk4 hk5))
      all_goals
        go_wp2_with fail
        go_ret
        rw [HRR.out]
        exact ⟨rfl, HD.out.step (by first | with_reducible exact HK4.out | with_reducible exact HK4.out.drew) (by first | with_reducible exact HT4.out | exact HT4.out) (by rw [HRR.out] at HOK; exact HOK.out), (HW.out.wide (fun _ _ f => f.elim)).trans HK4.out (fun _ _ e => e)⟩
    · by_cases g9 : kd = 9
      · have HRR := hid (HR9.out hic g9)
        rw [hic] at HIC
        have g8' : (kd == 8) = false := by simp [g8]
        have g9' : (kd == 9) = true := by simp [g9]
        clear g8 g9 hic
        go_enter Try.func18, Try.ntmps18
        go_upto_region 1 with fail
        try rw [hw1]
        go_wp2_with fail
        (with_reducible refine HIC.out.mono ?_)
        rintro e w2 ⟨rfl, rfl⟩
        go_wp2_with fail
        go_region_held3 (fun W => W.cell? ⟨mb, 2, none⟩ = some (.int .i64 c.h3) ∧ W.cell? ⟨mb, 3, none⟩ = some (.pointer (some ⟨tb, 0, none⟩)) ∧ W.cell? ⟨w.heap.size, 7, none⟩ = some (.int .i64 ds) ∧ W.cell? ⟨w.heap.size, 8, none⟩ = some (.int .i64 ce) ∧ W.cell? ⟨w.heap.size, 9, none⟩ = some (.int .i64 ep))
          (first | with_reducible exact ⟨t2, t3, q7, q8, q9⟩ | with_reducible exact HS.out | go_keep)
          (first
            | (go_at_call 41
               (with_reducible refine (HRN.out _ (by first | with_reducible exact Keep.refl _ _ | with_reducible exact (Keep.refl _ _).drew)).mono ?_)
               rintro e w4 ⟨rfl, ht4, hk4⟩
               have hk5 : Keep (· = sb) w1 w4 := by first | with_reducible exact hk4 | with_reducible exact (Keep.refl _ _).drew.trans hk4 (fun _ _ e => e)
               have HT4 := hid ht4
               have HK4 := hid hk5
               have HS := hid (show w4.cell? ⟨mb, 2, none⟩ = some (.int .i64 c.h3) ∧ w4.cell? ⟨mb, 3, none⟩ = some (.pointer (some ⟨tb, 0, none⟩)) ∧ w4.cell? ⟨w.heap.size, 7, none⟩ = some (.int .i64 ds) ∧ w4.cell? ⟨w.heap.size, 8, none⟩ = some (.int .i64 ce) ∧ w4.cell? ⟨w.heap.size, 9, none⟩ = some (.int .i64 ep) from ⟨(hk5.cell (p := ⟨mb, 2, none⟩) hl1 hn1).trans t2, (hk5.cell (p := ⟨mb, 3, none⟩) hl1 hn1).trans t3, (hk5.cell (p := ⟨w.heap.size, 7, none⟩) hl2 hn2).trans q7, (hk5.cell (p := ⟨w.heap.size, 8, none⟩) hl2 hn2).trans q8, (hk5.cell (p := ⟨w.heap.size, 9, none⟩) hl2 hn2).trans q9⟩)
               clear ht4 hk4 hk5))
        all_goals
          go_wp2_with fail
          go_ret
          rw [HRR.out]
          exact ⟨rfl, HD.out.step (by first | with_reducible exact HK4.out | with_reducible exact HK4.out.drew) (by first | with_reducible exact HT4.out | exact HT4.out) (by rw [HRR.out] at HOK; exact HOK.out), (HW.out.wide (fun _ _ f => f.elim)).trans HK4.out (fun _ _ e => e)⟩
      · by_cases g10 : kd = 10
        · have HRR := hid (HR10.out hic g10)
          rw [hic] at HIC
          have g8' : (kd == 8) = false := by simp [g8]
          have g9' : (kd == 9) = false := by simp [g9]
          have g10' : (kd == 10) = true := by simp [g10]
          clear g8 g9 g10 hic
          go_enter Try.func18, Try.ntmps18
          go_upto_region 1 with fail
          try rw [hw1]
          go_wp2_with fail
          (with_reducible refine HIC.out.mono ?_)
          rintro e w2 ⟨rfl, rfl⟩
          go_wp2_with fail
          go_region_held3 (fun W => W.cell? ⟨mb, 2, none⟩ = some (.int .i64 c.h3) ∧ W.cell? ⟨mb, 3, none⟩ = some (.pointer (some ⟨tb, 0, none⟩)) ∧ W.cell? ⟨w.heap.size, 7, none⟩ = some (.int .i64 ds) ∧ W.cell? ⟨w.heap.size, 8, none⟩ = some (.int .i64 ce) ∧ W.cell? ⟨w.heap.size, 9, none⟩ = some (.int .i64 ep))
            (first | with_reducible exact ⟨t2, t3, q7, q8, q9⟩ | with_reducible exact HS.out | go_keep)
            (first
              | (go_at_call 42
                 (with_reducible refine (HRL.out _ (by first | with_reducible exact Keep.refl _ _ | with_reducible exact (Keep.refl _ _).drew)).mono ?_)
                 rintro e w4 ⟨rfl, ht4, hk4⟩
                 have hk5 : Keep (· = sb) w1 w4 := by first | with_reducible exact hk4 | with_reducible exact (Keep.refl _ _).drew.trans hk4 (fun _ _ e => e)
                 have HT4 := hid ht4
                 have HK4 := hid hk5
                 have HS := hid (show w4.cell? ⟨mb, 2, none⟩ = some (.int .i64 c.h3) ∧ w4.cell? ⟨mb, 3, none⟩ = some (.pointer (some ⟨tb, 0, none⟩)) ∧ w4.cell? ⟨w.heap.size, 7, none⟩ = some (.int .i64 ds) ∧ w4.cell? ⟨w.heap.size, 8, none⟩ = some (.int .i64 ce) ∧ w4.cell? ⟨w.heap.size, 9, none⟩ = some (.int .i64 ep) from ⟨(hk5.cell (p := ⟨mb, 2, none⟩) hl1 hn1).trans t2, (hk5.cell (p := ⟨mb, 3, none⟩) hl1 hn1).trans t3, (hk5.cell (p := ⟨w.heap.size, 7, none⟩) hl2 hn2).trans q7, (hk5.cell (p := ⟨w.heap.size, 8, none⟩) hl2 hn2).trans q8, (hk5.cell (p := ⟨w.heap.size, 9, none⟩) hl2 hn2).trans q9⟩)
                 clear ht4 hk4 hk5))
          all_goals
            go_wp2_with fail
            go_ret
            rw [HRR.out]
            exact ⟨rfl, HD.out.step (by first | with_reducible exact HK4.out | with_reducible exact HK4.out.drew) (by first | with_reducible exact HT4.out | exact HT4.out) (by rw [HRR.out] at HOK; exact HOK.out), (HW.out.wide (fun _ _ f => f.elim)).trans HK4.out (fun _ _ e => e)⟩
        · have HRR := hid (HRX.out hic g8 g9 g10)
          rw [hic] at HIC
          have g8' : (kd == 8) = false := by simp [g8]
          have g9' : (kd == 9) = false := by simp [g9]
          have g10' : (kd == 10) = false := by simp [g10]
          clear g8 g9 g10 hic
          go_enter Try.func18, Try.ntmps18
          go_upto_region 1 with fail
          try rw [hw1]
          go_wp2_with fail
          (with_reducible refine HIC.out.mono ?_)
          rintro e w2 ⟨rfl, rfl⟩
          go_wp2_with fail
          go_ret
          rw [HRR.out]
          exact ⟨rfl, HD.out, HW.out.wide (fun _ _ f => f.elim)⟩
end
end Go.Proofs.Ytmkcphhgimlkgaa

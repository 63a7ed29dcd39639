import Derived.Test.YtmkcphhgimlkgaaDiG
import Derived.Test.YtmkcphhgimlkgaaDiF
namespace Go.Proofs.Ytmkcphhgimlkgaa
open Go.RowKit

theorem results_cell_tmp {P : Program} {fn : Func} {p q : Tmp} {ty : TypeId} (h : fn.results = #[.cell p ty, .tmp q]) (tmps : Array Value) (w : World) (g : Nat) (t : TypeId) (cs : Array Value) (fr : Nat × Nat) (d : TypeDesc) (v : Value)
    (hp : tmps.getD p undef = .pointer (some ⟨g, 0, none⟩)) (hq : tmps.getD q undef = v) (hg : w.heap[g]? = some (.cells cs t fr))
    (hu : P.underlying ty = some d) (hd : (match d with | .struct _ | .array _ _ => true | _ => false) = true) (hi : (P.info? ty).map (·.size) = some cs.size) :
    (results fn tmps).run P w = .ok (.tuple #[.agg cs, v]) w := by
  have hp' : tmps[p]?.getD undef = .pointer (some ⟨g, 0, none⟩) := by simpa using hp
  have hq' : tmps[q]?.getD undef = v := by simpa using hq
  simp [results, h, hp', hq', asAddr, run_loadVar_row w g t ty cs fr d hg hu hd hi]
theorem map16_one (c : CF) (X : Option Addr) (m cx : Nat) : ∀ u ∈ map16 c X m cx, u.oneCell' = true := by
  intro u hu
  simp only [map16, List.mem_cons, List.not_mem_nil, or_false] at hu
  rcases hu with rfl | rfl | rfl | rfl | rfl | rfl | rfl | rfl | rfl | rfl | rfl | rfl | rfl | rfl | rfl | rfl <;> rfl
theorem Sl.fresh {w : World} {Av : Nat → Prop} {size n : Nat} {A : Option Addr} {xs : List Value} (h : Sl w Av size A n xs) : Sl w (fun i => Av i ∨ w.heap.size ≤ i) size A n xs :=
  ⟨h.len, fun hn => by
    obtain ⟨b, off, e, hb, ha, hr⟩ := h.at_ hn
    exact ⟨b, off, e, hb, fun hx => hx.elim ha (fun h2 => by omega), hr⟩⟩
def DoPost (w : World) (Av : Nat → Prop) (c : CF) (R : List St × Int) (e : Ending) (w' : World) : Prop :=
  ∃ X cx, e = .returned (.tuple #[.agg (map16 c X R.1.length cx).toArray, .int .i64 R.2]) ∧ Th w' Av X R.1 ∧ Same w w'
set_option maxRecDepth 100000 in
set_option maxHeartbeats 8000000 in
theorem do_any (w : World) (Av : Nat → Prop) (hAv : ∀ i, Av i → i < w.heap.size) (c : CF) (X : Option Addr) (cx : Nat) (l : List St) (hT : Th w Av X l) (hok : OkL c.cen c.h3 l) (kd ds ce ep now : Int) :
    Calls Try.prog 33 #[.agg (map16 c X l.length cx).toArray, .agg (cmdV kd ds ce ep).toArray, .int .i64 now] w (DoPost w Av c (doD c.cen c.h3 l kd ds ce ep now)) := by
  have hR : ∀ R, R = doD c.cen c.h3 l kd ds ce ep now → (inB ce c.cen = false → R = (l, 1)) ∧ (inB ce c.cen = true → kd = 8 → R = ((acqR l ds ce ep now c.h3).1, (acqR l ds ce ep now c.h3).2.2)) ∧
      (inB ce c.cen = true → kd = 9 → R = renR l ds ce ep now c.h3) ∧ (inB ce c.cen = true → kd = 10 → R = relR l ds ce ep now) ∧ (kd ≠ 8 → kd ≠ 9 → kd ≠ 10 → R = (l, 1)) := by
    rintro R rfl
    refine ⟨fun h => by simp [doD, h], fun h k => by simp [doD, h, k], fun h k => by simp [doD, h, k], fun h k => by simp [doD, h, k], fun k1 k2 k3 => by simp [doD, k1, k2, k3]⟩
  obtain ⟨R, hRe⟩ : ∃ R, R = doD c.cen c.h3 l kd ds ce ep now := ⟨_, rfl⟩
  obtain ⟨hr0, hr8, hr9, hr10, hrx⟩ := hR R hRe
  rw [← hRe]
  clear hR hRe
  have HSM := hok.small
  have hm := ((Blk.made w 36 (map16 c X l.length cx).toArray).alloc (.cells (cmdV kd ds ce ep).toArray 52)).alloc (.cells zero16.toArray 36)
  have hc := ((Blk.made (w.alloc (.cells (map16 c X l.length cx).toArray 36)) 52 (cmdV kd ds ce ep).toArray)).alloc (.cells zero16.toArray 36)
  have hz := (Blk.made ((w.alloc (.cells (map16 c X l.length cx).toArray 36)).alloc (.cells (cmdV kd ds ce ep).toArray 52)) 36 zero16.toArray)
  have hw : Same w (((w.alloc (.cells (map16 c X l.length cx).toArray 36)).alloc (.cells (cmdV kd ds ce ep).toArray 52)).alloc (.cells zero16.toArray 36)) := (((Keep.refl _ _).alloc _).alloc _).alloc _
  rw [World.size_alloc] at hc
  rw [World.size_alloc, World.size_alloc] at hz
  generalize hw1 : (((w.alloc (.cells (map16 c X l.length cx).toArray 36)).alloc (.cells (cmdV kd ds ce ep).toArray 52)).alloc (.cells zero16.toArray 36)) = w1 at *
  have m0 : w1.cell? ⟨w.heap.size, 0, none⟩ = some (.int .i64 c.cen) := hm.at_ 0
  have m8 : w1.cell? ⟨w.heap.size, 8, none⟩ = some (.int .i64 c.h3) := hm.at_ 8
  have m15 : w1.cell? ⟨w.heap.size, 15, none⟩ = some (.slice X l.length cx) := hm.at_ 15
  have q0 : w1.cell? ⟨w.heap.size + 1, 0, none⟩ = some (.int .i64 kd) := hc.at_ 0
  have q7 : w1.cell? ⟨w.heap.size + 1, 7, none⟩ = some (.int .i64 ds) := hc.at_ 7
  have q8 : w1.cell? ⟨w.heap.size + 1, 8, none⟩ = some (.int .i64 ce) := hc.at_ 8
  have q9 : w1.cell? ⟨w.heap.size + 1, 9, none⟩ = some (.int .i64 ep) := hc.at_ 9
  have HM := hid (fun W (hk : Same w1 W) => hm.keep hk (fun f => f))
  have HZ := hid (fun W (hk : Same w1 W) => hz.keep hk (fun f => f))
  have HW := hid hw
  have hAv1 : ∀ i, (Av i ∨ i = w.heap.size ∨ i = w.heap.size + 2) → i < w1.heap.size := fun i hi => by
    have h1 := hz.lt
    rcases hi with hi | hi | hi
    · exact Nat.lt_of_lt_of_le (hAv i hi) hw.size
    · omega
    · omega
  have hT1 : Th w1 (fun i => Av i ∨ i = w.heap.size ∨ i = w.heap.size + 2) X l := (hT.fresh.same hw).wide (fun i _ hi => by
    rcases hi with hi | hi | hi
    · exact .inl hi
    · exact .inr (by omega)
    · exact .inr (by omega))
  have HTA := hid (take_any w1 _ hAv1 X cx l hT1 HSM ds ce ep now c.h3)
  have HHO := hid (hold_any w1 _ hAv1 X cx l hT1 HSM ds ce ep now c.h3)
  have HGI := hid (give_any w1 _ hAv1 X cx l hT1 HSM ds ce ep now)
  have HT := hid hT
  have HR0 := hid hr0
  have HR8 := hid hr8
  have HR9 := hid hr9
  have HR10 := hid hr10
  have HRX := hid hrx
  have hl1 := hm.lt
  have HAV := hid hAv
  clear hr0 hr8 hr9 hr10 hrx hm hc hz hw hT hAv hAv1 hok hT1
  by_cases g : kd = 8 ∨ kd = 9 ∨ kd = 10
  · by_cases hic : inB ce c.cen = true
    · obtain ⟨i0, i1⟩ := inB_in hic
      rcases g with g | g | g
      · have HRR := hid (HR8.out hic g)
        clear hic
        subst g
        go_enter Try.func33, Try.ntmps33
        go_upto_region 1 with fail
        try simp only [zero16] at hw1
        try rw [hw1]
        go_upto_region 2 with fail
        go_wp2_with fail
        (with_reducible refine HTA.out.mono ?_)
        rintro e w2 ⟨X', cx', rfl, ht2, hk2⟩
        have HT2 := hid ht2
        have HK2 := hid hk2
        have hM2 := HM.out _ hk2
        have HM2 := hid hM2
        have m15 : w2.cell? ⟨w.heap.size, 15, none⟩ = some (.slice X l.length cx) := hM2.at_ 15
        have f15 := hM2.free 15
        have hl2 := hM2.lt
        clear ht2 hk2 hM2 m0 m8 q0 q7 q8 q9
        go_upto_region 11 with fail
        have hM3 := HM2.out.put 15 (.slice X' (acqR l ds ce ep now c.h3).1.length cx')
        have HM3 : Hid (Blk (w2.setCell ⟨w.heap.size, 15, none⟩ (.slice X' (acqR l ds ce ep now c.h3).1.length cx')) w.heap.size 36 (map16 c X' (acqR l ds ce ep now c.h3).1.length cx').toArray) := hid hM3
        have HZ3 := hid ((HZ.out _ HK2.out).far (p := ⟨w.heap.size, 15, none⟩) (by show ¬ w.heap.size + 2 = w.heap.size; omega) (.slice X' (acqR l ds ce ep now c.h3).1.length cx'))
        have hk3 : Keep (fun i => i = w.heap.size) w2 (w2.setCell ⟨w.heap.size, 15, none⟩ (.slice X' (acqR l ds ce ep now c.h3).1.length cx')) := (Keep.refl _ _).put _ _
        have HT3 := hid (HT2.out.keep hk3 (fun i _ e => .inr (.inl e)))
        have HK3 := hid ((HW.out.then HK2.out).trans hk3 (fun i hi e => by have e2 : i = w.heap.size := e; omega))
        clear hM3 hk3 m15 f15
        generalize w2.setCell ⟨w.heap.size, 15, none⟩ (.slice X' (acqR l ds ce ep now c.h3).1.length cx') = w3 at *
        go_wp2_with (first
          | (refine wpList_load_row rfl _ (.tmp 3) rfl w.heap.size rfl _ (map16 c X' (acqR l ds ce ep now c.h3).1.length cx').toArray (0, 0) _ HM3.out Try.underlying36 rfl (by kernel_rfl) ?_)
          | (refine wpList_store_row rfl _ (.tmp 6) (.tmp 88) rfl (w.heap.size + 2) (map16 c X' (acqR l ds ce ep now c.h3).1.length cx').toArray rfl rfl _ _ HZ3.out (by kernel_rfl) rfl (one_toArray (map16_one _ _ _ _)) ?_))
        refine bodyPost_ret (results_cell_tmp rfl _ _ _ _ _ _ _ _ rfl rfl (HZ3.out.row _) Try.underlying36 rfl (by kernel_rfl)) rfl ?_
        rw [HRR.out]
        exact ⟨X', cx', rfl, (HT3.out.keep (Keep.row _ _ _) (fun i _ e => .inr (.inr e))).wide (fun i _ h => .inl h), HK3.out.trans (Keep.row _ _ _) (fun i hi e => by have e2 : i = w.heap.size + 2 := e; omega)⟩
      · have HRR := hid (HR9.out hic g)
        clear hic
        subst g
        go_enter Try.func33, Try.ntmps33
        go_upto_region 1 with fail
        try simp only [zero16] at hw1
        try rw [hw1]
        go_upto_region 2 with fail
        go_wp2_with fail
        (with_reducible refine HHO.out.mono ?_)
        rintro e w2 ⟨X', cx', rfl, ht2, hk2⟩
        have HT2 := hid ht2
        have HK2 := hid hk2
        have hM2 := HM.out _ hk2
        have HM2 := hid hM2
        have m15 : w2.cell? ⟨w.heap.size, 15, none⟩ = some (.slice X l.length cx) := hM2.at_ 15
        have f15 := hM2.free 15
        have hl2 := hM2.lt
        clear ht2 hk2 hM2 m0 m8 q0 q7 q8 q9
        go_upto_region 11 with fail
        have hM3 := HM2.out.put 15 (.slice X' (renR l ds ce ep now c.h3).1.length cx')
        have HM3 : Hid (Blk (w2.setCell ⟨w.heap.size, 15, none⟩ (.slice X' (renR l ds ce ep now c.h3).1.length cx')) w.heap.size 36 (map16 c X' (renR l ds ce ep now c.h3).1.length cx').toArray) := hid hM3
        have HZ3 := hid ((HZ.out _ HK2.out).far (p := ⟨w.heap.size, 15, none⟩) (by show ¬ w.heap.size + 2 = w.heap.size; omega) (.slice X' (renR l ds ce ep now c.h3).1.length cx'))
        have hk3 : Keep (fun i => i = w.heap.size) w2 (w2.setCell ⟨w.heap.size, 15, none⟩ (.slice X' (renR l ds ce ep now c.h3).1.length cx')) := (Keep.refl _ _).put _ _
        have HT3 := hid (HT2.out.keep hk3 (fun i _ e => .inr (.inl e)))
        have HK3 := hid ((HW.out.then HK2.out).trans hk3 (fun i hi e => by have e2 : i = w.heap.size := e; omega))
        clear hM3 hk3 m15 f15
        generalize w2.setCell ⟨w.heap.size, 15, none⟩ (.slice X' (renR l ds ce ep now c.h3).1.length cx') = w3 at *
        go_wp2_with (first
          | (refine wpList_load_row rfl _ (.tmp 3) rfl w.heap.size rfl _ (map16 c X' (renR l ds ce ep now c.h3).1.length cx').toArray (0, 0) _ HM3.out Try.underlying36 rfl (by kernel_rfl) ?_)
          | (refine wpList_store_row rfl _ (.tmp 6) (.tmp 88) rfl (w.heap.size + 2) (map16 c X' (renR l ds ce ep now c.h3).1.length cx').toArray rfl rfl _ _ HZ3.out (by kernel_rfl) rfl (one_toArray (map16_one _ _ _ _)) ?_))
        refine bodyPost_ret (results_cell_tmp rfl _ _ _ _ _ _ _ _ rfl rfl (HZ3.out.row _) Try.underlying36 rfl (by kernel_rfl)) rfl ?_
        rw [HRR.out]
        exact ⟨X', cx', rfl, (HT3.out.keep (Keep.row _ _ _) (fun i _ e => .inr (.inr e))).wide (fun i _ h => .inl h), HK3.out.trans (Keep.row _ _ _) (fun i hi e => by have e2 : i = w.heap.size + 2 := e; omega)⟩
      · have HRR := hid (HR10.out hic g)
        clear hic
        subst g
        go_enter Try.func33, Try.ntmps33
        go_upto_region 1 with fail
        try simp only [zero16] at hw1
        try rw [hw1]
        go_upto_region 2 with fail
        go_wp2_with fail
        (with_reducible refine HGI.out.mono ?_)
        rintro e w2 ⟨X', cx', rfl, ht2, hk2⟩
        have HT2 := hid ht2
        have HK2 := hid hk2
        have hM2 := HM.out _ hk2
        have HM2 := hid hM2
        have m15 : w2.cell? ⟨w.heap.size, 15, none⟩ = some (.slice X l.length cx) := hM2.at_ 15
        have f15 := hM2.free 15
        have hl2 := hM2.lt
        clear ht2 hk2 hM2 m0 m8 q0 q7 q8 q9
        go_upto_region 11 with fail
        have hM3 := HM2.out.put 15 (.slice X' (relR l ds ce ep now).1.length cx')
        have HM3 : Hid (Blk (w2.setCell ⟨w.heap.size, 15, none⟩ (.slice X' (relR l ds ce ep now).1.length cx')) w.heap.size 36 (map16 c X' (relR l ds ce ep now).1.length cx').toArray) := hid hM3
        have HZ3 := hid ((HZ.out _ HK2.out).far (p := ⟨w.heap.size, 15, none⟩) (by show ¬ w.heap.size + 2 = w.heap.size; omega) (.slice X' (relR l ds ce ep now).1.length cx'))
        have hk3 : Keep (fun i => i = w.heap.size) w2 (w2.setCell ⟨w.heap.size, 15, none⟩ (.slice X' (relR l ds ce ep now).1.length cx')) := (Keep.refl _ _).put _ _
        have HT3 := hid (HT2.out.keep hk3 (fun i _ e => .inr (.inl e)))
        have HK3 := hid ((HW.out.then HK2.out).trans hk3 (fun i hi e => by have e2 : i = w.heap.size := e; omega))
        clear hM3 hk3 m15 f15
        generalize w2.setCell ⟨w.heap.size, 15, none⟩ (.slice X' (relR l ds ce ep now).1.length cx') = w3 at *
        go_wp2_with (first
          | (refine wpList_load_row rfl _ (.tmp 3) rfl w.heap.size rfl _ (map16 c X' (relR l ds ce ep now).1.length cx').toArray (0, 0) _ HM3.out Try.underlying36 rfl (by kernel_rfl) ?_)
          | (refine wpList_store_row rfl _ (.tmp 6) (.tmp 88) rfl (w.heap.size + 2) (map16 c X' (relR l ds ce ep now).1.length cx').toArray rfl rfl _ _ HZ3.out (by kernel_rfl) rfl (one_toArray (map16_one _ _ _ _)) ?_))
        refine bodyPost_ret (results_cell_tmp rfl _ _ _ _ _ _ _ _ rfl rfl (HZ3.out.row _) Try.underlying36 rfl (by kernel_rfl)) rfl ?_
        rw [HRR.out]
        exact ⟨X', cx', rfl, (HT3.out.keep (Keep.row _ _ _) (fun i _ e => .inr (.inr e))).wide (fun i _ h => .inl h), HK3.out.trans (Keep.row _ _ _) (fun i hi e => by have e2 : i = w.heap.size + 2 := e; omega)⟩
    · have HRR := hid (HR0.out (by simpa using hic))
      have hic2 : ce < 0 ∨ (0 ≤ ce ∧ c.cen ≤ ce) := by simp [inB] at hic; omega
      clear hic
      have g1 : 8 ≤ kd ∧ kd ≤ 10 := by omega
      obtain ⟨g1, g2⟩ := g1
      clear g
      rcases hic2 with g3 | ⟨g3, g4⟩
      · go_enter Try.func33, Try.ntmps33
        go_upto_region 1 with fail
        try simp only [zero16] at hw1
        try rw [hw1]
        go_upto_region 2 with fail
        have hM1 := hid (HM.out _ (Keep.refl _ _))
        have hZ1 := hid (HZ.out _ (Keep.refl _ _))
        go_wp2_with (first
          | (refine wpList_load_row rfl _ (.tmp 3) rfl w.heap.size rfl _ (map16 c X l.length cx).toArray (0, 0) _ hM1.out Try.underlying36 rfl (by kernel_rfl) ?_)
          | (refine wpList_store_row rfl _ (.tmp 6) (.tmp 30) rfl (w.heap.size + 2) (map16 c X l.length cx).toArray rfl rfl _ _ hZ1.out (by kernel_rfl) rfl (one_toArray (map16_one _ _ _ _)) ?_))
        refine bodyPost_ret (results_cell_tmp rfl _ _ _ _ _ _ _ _ rfl rfl (hZ1.out.row _) Try.underlying36 rfl (by kernel_rfl)) rfl ?_
        rw [HRR.out]
        have hs9 : Same w (w1.setRow (w.heap.size + 2) (map16 c X l.length cx).toArray) := HW.out.trans (Keep.row _ _ _) (fun i hi e => by have e2 : i = w.heap.size + 2 := e; omega)
        exact ⟨X, cx, rfl, HT.out.same hs9, hs9⟩
      · go_enter Try.func33, Try.ntmps33
        go_upto_region 1 with fail
        try simp only [zero16] at hw1
        try rw [hw1]
        go_upto_region 2 with fail
        have hM1 := hid (HM.out _ (Keep.refl _ _))
        have hZ1 := hid (HZ.out _ (Keep.refl _ _))
        go_wp2_with (first
          | (refine wpList_load_row rfl _ (.tmp 3) rfl w.heap.size rfl _ (map16 c X l.length cx).toArray (0, 0) _ hM1.out Try.underlying36 rfl (by kernel_rfl) ?_)
          | (refine wpList_store_row rfl _ (.tmp 6) (.tmp 30) rfl (w.heap.size + 2) (map16 c X l.length cx).toArray rfl rfl _ _ hZ1.out (by kernel_rfl) rfl (one_toArray (map16_one _ _ _ _)) ?_))
        refine bodyPost_ret (results_cell_tmp rfl _ _ _ _ _ _ _ _ rfl rfl (hZ1.out.row _) Try.underlying36 rfl (by kernel_rfl)) rfl ?_
        rw [HRR.out]
        have hs9 : Same w (w1.setRow (w.heap.size + 2) (map16 c X l.length cx).toArray) := HW.out.trans (Keep.row _ _ _) (fun i hi e => by have e2 : i = w.heap.size + 2 := e; omega)
        exact ⟨X, cx, rfl, HT.out.same hs9, hs9⟩
  · have HRR := hid (HRX.out (by omega) (by omega) (by omega))
    have g1 : kd < 8 ∨ (8 ≤ kd ∧ 10 < kd) := by omega
    clear g
    rcases g1 with g | ⟨g, g1⟩
    · go_enter Try.func33, Try.ntmps33
      go_upto_region 1 with fail
      try simp only [zero16] at hw1
      try rw [hw1]
      go_upto_region 2 with fail
      have hM1 := hid (HM.out _ (Keep.refl _ _))
      have hZ1 := hid (HZ.out _ (Keep.refl _ _))
      go_wp2_with (first
        | (refine wpList_load_row rfl _ (.tmp 3) rfl w.heap.size rfl _ (map16 c X l.length cx).toArray (0, 0) _ hM1.out Try.underlying36 rfl (by kernel_rfl) ?_)
        | (refine wpList_store_row rfl _ (.tmp 6) (.tmp 30) rfl (w.heap.size + 2) (map16 c X l.length cx).toArray rfl rfl _ _ hZ1.out (by kernel_rfl) rfl (one_toArray (map16_one _ _ _ _)) ?_))
      refine bodyPost_ret (results_cell_tmp rfl _ _ _ _ _ _ _ _ rfl rfl (hZ1.out.row _) Try.underlying36 rfl (by kernel_rfl)) rfl ?_
      rw [HRR.out]
      have hs9 : Same w (w1.setRow (w.heap.size + 2) (map16 c X l.length cx).toArray) := HW.out.trans (Keep.row _ _ _) (fun i hi e => by have e2 : i = w.heap.size + 2 := e; omega)
      exact ⟨X, cx, rfl, HT.out.same hs9, hs9⟩
    · go_enter Try.func33, Try.ntmps33
      go_upto_region 1 with fail
      try simp only [zero16] at hw1
      try rw [hw1]
      go_upto_region 2 with fail
      have hM1 := hid (HM.out _ (Keep.refl _ _))
      have hZ1 := hid (HZ.out _ (Keep.refl _ _))
      go_wp2_with (first
        | (refine wpList_load_row rfl _ (.tmp 3) rfl w.heap.size rfl _ (map16 c X l.length cx).toArray (0, 0) _ hM1.out Try.underlying36 rfl (by kernel_rfl) ?_)
        | (refine wpList_store_row rfl _ (.tmp 6) (.tmp 30) rfl (w.heap.size + 2) (map16 c X l.length cx).toArray rfl rfl _ _ hZ1.out (by kernel_rfl) rfl (one_toArray (map16_one _ _ _ _)) ?_))
      refine bodyPost_ret (results_cell_tmp rfl _ _ _ _ _ _ _ _ rfl rfl (hZ1.out.row _) Try.underlying36 rfl (by kernel_rfl)) rfl ?_
      rw [HRR.out]
      have hs9 : Same w (w1.setRow (w.heap.size + 2) (map16 c X l.length cx).toArray) := HW.out.trans (Keep.row _ _ _) (fun i hi e => by have e2 : i = w.heap.size + 2 := e; omega)
      exact ⟨X, cx, rfl, HT.out.same hs9, hs9⟩
end Go.Proofs.Ytmkcphhgimlkgaa

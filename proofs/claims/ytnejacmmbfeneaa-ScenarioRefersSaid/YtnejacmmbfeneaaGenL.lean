import Derived.Test.YtnejacmmbfeneaaGenK
namespace Go.Proofs.Ytnejacmmbfeneaa
open Go.RowKit Go.PlainAid

theorem cell_put8 {w : World} {b g : Nat} {v0 v1 v2 v3 v4 v5 v6 v7 : Value} (hn : b ≠ g) (i : Nat) : ((((((((w.setCell ⟨g, 0, none⟩ v0).setCell ⟨g, 1, none⟩ v1).setCell ⟨g, 2, none⟩ v2).setCell ⟨g, 3, none⟩ v3).setCell ⟨g, 4, none⟩ v4).setCell ⟨g, 5, none⟩ v5).setCell ⟨g, 6, none⟩ v6).setCell ⟨g, 7, none⟩ v7).cell? ⟨b, i, none⟩ = w.cell? ⟨b, i, none⟩ := by
  have hb : ((((((((w.setCell ⟨g, 0, none⟩ v0).setCell ⟨g, 1, none⟩ v1).setCell ⟨g, 2, none⟩ v2).setCell ⟨g, 3, none⟩ v3).setCell ⟨g, 4, none⟩ v4).setCell ⟨g, 5, none⟩ v5).setCell ⟨g, 6, none⟩ v6).setCell ⟨g, 7, none⟩ v7).heap[b]? = w.heap[b]? := by
    repeat rw [Below.heap_setCell _ _ _ _ (by simpa using hn)]
  exact World.cell?_of_block (w := w) hb
section
variable {w w' : World} {b r d : Nat} {c : CF} {x : AS}
set_option maxRecDepth 100000 in
set_option maxHeartbeats 8000000 in
theorem rroad_any (h : RM w b r d c x) (hc1 : 1 ≤ c.cen) (hc2 : c.cen ≤ 9) (he : 0 < (c.edg.length : Int)) (hne : (c.edg.length : Int) ≤ 9223372036854775807) : Calls Try.prog 56 #[.pointer (some ⟨b, 0, none⟩)] w (ActPost w b r d c (roadM (roll c.cen x.s) (roll c.edg.length (x.draw c.cen).s) ((x.draw c.cen).draw c.edg.length))) := by
  have HNE := hid hne
  clear hne
  have HM0 := hid h
  have HLT := hid h.lts
  have HR := hid (Blk.made w 59 #[.int .i64 0, .int .i64 0, .int .i64 0, .int .i64 0, .int .i64 0, .int .i64 0, .slice none 0 0, .slice none 0 0])
  have HK := hid ((Keep.refl (brd b r d) w).alloc (.cells #[.int .i64 0, .int .i64 0, .int .i64 0, .int .i64 0, .int .i64 0, .int .i64 0, .slice none 0 0, .slice none 0 0] 59))
  have HM := hid (h.same ((Keep.refl (fun _ => False) w).alloc (.cells #[.int .i64 0, .int .i64 0, .int .i64 0, .int .i64 0, .int .i64 0, .int .i64 0, .slice none 0 0, .slice none 0 0] 59)))
  clear h
  go_enter Try.func56, Try.ntmps56
  go_upto_region 1 with fail
  generalize w.alloc (.cells #[.int .i64 0, .int .i64 0, .int .i64 0, .int .i64 0, .int .i64 0, .int .i64 0, .slice none 0 0, .slice none 0 0] 59) = w1 at *
  obtain ⟨t0, t1, t2, t3, t4, t5, t6, t7, t8, t9, t10, t11, t12, t13, t14, t15, td, ts, tw, tf, tl⟩ := HM.out.rc
  have HC1 := hid (fun W (hs : Same w1 W) => roll_any W r _ c.cen (HM.out.same hs).rng (by omega))
  go_cut [3] from 4 (fun u3 w' => ∃ ab : Nat, u3 = .pointer (some ⟨ab, 0, none⟩) ∧ Hid (w.heap.size < ab ∧ Blk w' ab 59 #[.int .i64 14, .int .i64 (roll c.cen x.s), .int .i64 0, .int .i64 (roll c.edg.length (x.draw c.cen).s), .int .i64 0, .int .i64 0, .slice none 0 0, .slice none 0 0] ∧ RM w' b r d c ((x.draw c.cen).draw c.edg.length) ∧ Keep (brd b r d) w w' ∧ Blk w' w.heap.size 59 #[.int .i64 0, .int .i64 0, .int .i64 0, .int .i64 0, .int .i64 0, .int .i64 0, .slice none 0 0, .slice none 0 0]))
  case first =>
    go_region_held3 (fun W => W.cell? ⟨b, 0, none⟩ = some (.pointer (some ⟨r, 0, none⟩)) ∧ W.cell? ⟨b, 1, none⟩ = some (.int .i64 c.cen) ∧ W.cell? ⟨b, 3, none⟩ = some (.slice c.E c.edg.length c.cE))
      (first | with_reducible exact ⟨t0, t1, t3⟩ | with_reducible exact HS.out | with_reducible exact HS3.out | (with_reducible refine ⟨(cell_put8 hne2 0).trans z0, (cell_put8 hne2 1).trans z1, (cell_put8 hne2 3).trans z3⟩) | (with_reducible refine ⟨(cell_put8 hne1 0).trans z0, (cell_put8 hne1 1).trans z1, (cell_put8 hne1 3).trans z3⟩) | go_keep)
      (first
        | (
          go_at_call 13
          (with_reducible refine (HC1.out _ (by first | with_reducible exact Keep.refl _ _ | with_reducible exact (Keep.refl _ _).drew | with_reducible exact (Keep.refl _ _).alloc _ | with_reducible exact ((Keep.refl _ _).alloc _).drew)).mono ?_)
          rintro e w2 ⟨rfl, hg9, hk9⟩
          have hkk : Keep (· = r) w1 w2 := by
            first
              | with_reducible exact hk9
              | with_reducible exact (Keep.refl _ _).drew.trans hk9 (fun _ _ e => e)
              | with_reducible exact ((Keep.refl _ _).alloc _).trans hk9 (fun _ _ e => e)
              | with_reducible exact ((Keep.refl _ _).alloc _).drew.trans hk9 (fun _ _ e => e)
          have HM2 := hid (HM.out.draw hg9 hkk)
          have HK2 := hid (HK.out.trans hkk (fun _ _ e => .inr (.inl e)))
          have HR2 := hid (HR.out.keep hkk (fun e => by have := HLT.out; omega))
          have hf1 : ¬ (w1.heap.size = r) := by have := HLT.out; have := HR.out.lt; omega
          try (with_reducible have HQ := hid ((Blk.made w1 59 #[.int .i64 0, .int .i64 0, .int .i64 0, .int .i64 0, .int .i64 0, .int .i64 0, .slice none 0 0, .slice none 0 0]).drew.keep hk9 hf1))
          clear hf1
          have HS := hid (show w2.cell? ⟨b, 0, none⟩ = some (.pointer (some ⟨r, 0, none⟩)) ∧ w2.cell? ⟨b, 1, none⟩ = some (.int .i64 c.cen) ∧ w2.cell? ⟨b, 3, none⟩ = some (.slice c.E c.edg.length c.cE) from ⟨HM2.out.rc.c0, HM2.out.rc.c1, HM2.out.rc.c3⟩)
          obtain ⟨y0, y1, y3⟩ := HS.out
          have blt := HM2.out.rc.lt
          have HC2 := hid (fun W (hs : Same w2 W) => roll_any W r _ c.edg.length (HM2.out.same hs).rng HNE.out)
          clear hg9 hk9 hkk)
        | (
          go_at_call 13
          (with_reducible refine (HC2.out _ (by first | with_reducible exact Keep.refl _ _ | with_reducible exact (Keep.refl _ _).drew | with_reducible exact (Keep.refl _ _).alloc _ | with_reducible exact ((Keep.refl _ _).alloc _).drew)).mono ?_)
          rintro e w3 ⟨rfl, hg9, hk9⟩
          have hkk : Keep (· = r) w2 w3 := by
            first
              | with_reducible exact hk9
              | with_reducible exact (Keep.refl _ _).drew.trans hk9 (fun _ _ e => e)
              | with_reducible exact ((Keep.refl _ _).alloc _).trans hk9 (fun _ _ e => e)
              | with_reducible exact ((Keep.refl _ _).alloc _).drew.trans hk9 (fun _ _ e => e)
          have HM3 := hid (HM2.out.draw hg9 hkk)
          have HK3 := hid (HK2.out.trans hkk (fun _ _ e => .inr (.inl e)))
          have HR3 := hid (HR2.out.keep hkk (fun e => by have := HLT.out; omega))
          have hf1 : ¬ (w1.heap.size = r) := by have := HLT.out; have := HR.out.lt; omega
          have hf2 : ¬ (w2.heap.size = r) := by have := HLT.out; have := HR2.out.lt; omega
          try (with_reducible have HQ3 := hid (HQ.out.keep hk9 hf1))
          try (with_reducible have HQ3 := hid ((Blk.made w2 59 #[.int .i64 0, .int .i64 0, .int .i64 0, .int .i64 0, .int .i64 0, .int .i64 0, .slice none 0 0, .slice none 0 0]).keep hk9 hf2))
          clear hf1 hf2
          have HS3 := hid (show w3.cell? ⟨b, 0, none⟩ = some (.pointer (some ⟨r, 0, none⟩)) ∧ w3.cell? ⟨b, 1, none⟩ = some (.int .i64 c.cen) ∧ w3.cell? ⟨b, 3, none⟩ = some (.slice c.E c.edg.length c.cE) from ⟨HM3.out.rc.c0, HM3.out.rc.c1, HM3.out.rc.c3⟩)
          obtain ⟨z0, z1, z3⟩ := HS3.out
          have blt3 := HM3.out.rc.lt
          have hne1 : b ≠ w1.heap.size := by have := HLT.out; have := HR.out.lt; omega
          have hne2 : b ≠ w2.heap.size := by have := HLT.out; have := HR2.out.lt; omega
          try have rq := HQ3.out.free
          try have rqlt := HQ3.out.lt
          try have rq0 := HQ3.out.at_ 0
          try have rq1 := HQ3.out.at_ 1
          try have rq2 := HQ3.out.at_ 2
          try have rq3 := HQ3.out.at_ 3
          try have rq4 := HQ3.out.at_ 4
          try have rq5 := HQ3.out.at_ 5
          try have rq6 := HQ3.out.at_ 6
          try have rq7 := HQ3.out.at_ 7
          clear hg9 hk9 hkk))
    rotate_left 1
    · go_wp2_with fail
      go_meet
      have hp := Blk.put8 HQ3.out (.int .i64 14) (.int .i64 (roll c.cen x.s)) (.int .i64 0) (.int .i64 (roll c.edg.length (x.draw c.cen).s)) (.int .i64 0) (.int .i64 0) (.slice none 0 0) (.slice none 0 0)
      exact ⟨_, rfl, hid ⟨by have := HR2.out.lt; omega, hp.1, HM3.out.far hp.2 (by have := HLT.out; have := HR2.out.lt; omega) (by have := HLT.out; have := HR2.out.lt; omega) (by have := HLT.out; have := HR2.out.lt; omega), HK3.out.trans (hp.2.wide (T := fun i => w.heap.size ≤ i) (fun i _ e => by have := HR2.out.lt; omega)) (fun i hi e => by omega), HR3.out.keep hp.2 (by have := HR2.out.lt; omega)⟩⟩
    · go_wp2_with fail
      go_meet
      have hp := Blk.put8 HQ3.out (.int .i64 14) (.int .i64 (roll c.cen x.s)) (.int .i64 0) (.int .i64 (roll c.edg.length (x.draw c.cen).s)) (.int .i64 0) (.int .i64 0) (.slice none 0 0) (.slice none 0 0)
      exact ⟨_, rfl, hid ⟨by have := HR.out.lt; omega, hp.1, HM3.out.far hp.2 (by have := HLT.out; have := HR.out.lt; omega) (by have := HLT.out; have := HR.out.lt; omega) (by have := HLT.out; have := HR.out.lt; omega), HK3.out.trans (hp.2.wide (T := fun i => w.heap.size ≤ i) (fun i _ e => by have := HR.out.lt; omega)) (fun i hi e => by omega), HR3.out.keep hp.2 (by have := HR.out.lt; omega)⟩⟩
    · go_wp2_with fail
      go_meet
      exact ⟨_, rfl, hid ⟨HR3.out.lt, Blk.made _ _ _, HM3.out.same ((Keep.refl _ _).alloc _), HK3.out.then ((Keep.refl _ _).alloc _), HR3.out.alloc _⟩⟩
  case rest =>
    obtain ⟨ab, rfl, hc⟩ := hcut
    obtain ⟨hab, hb1, hm1, hk1, hr1⟩ := hc.out
    clear HM HK HR hc HC1
    clear t0 t1 t2 t3 t4 t5 t6 t7 t8 t9 t10 t11 t12 t13 t14 t15 td ts tw tf tl
    have HM := hid hm1
    have HK := hid hk1
    have HR := hid hr1
    have HB := hid hb1
    clear hm1 hk1 hr1 hb1
    generalize roll c.cen x.s = who at *
    generalize roll c.edg.length (x.draw c.cen).s = call at *
    generalize (x.draw c.cen).draw c.edg.length = x3 at *
    obtain ⟨t0, t1, t2, t3, t4, t5, t6, t7, t8, t9, t10, t11, t12, t13, t14, t15, td, ts, tw, tf, tl⟩ := HM.out.rc
    have HRt := hid (show chc 1 4 x3.s = true → roadM who call x3 = (x3.draw 4).add ⟨14, who, 4611686018427387904, call, 0, 0, [], []⟩ from fun hb => by rw [roadM, if_pos hb])
    have HRf := hid (show chc 1 4 x3.s = false → roadM who call x3 = ((x3.draw 4).draw 20).add ⟨14, who, 1 + roll 20 (x3.draw 4).s, call, 0, 0, [], []⟩ from fun hb => by rw [roadM, if_neg (by simp [hb])])
    go_upto_if 30 with (
      go_at_call 15
      (with_reducible refine (dchance_any _ r _ _ _ HM.out.rng (by omega)).mono ?_)
      rintro e w4 ⟨rfl, hg9, hk9⟩
      have HM2 := hid (HM.out.draw hg9 hk9)
      have HK2 := hid (HK.out.trans hk9 (fun _ _ e => .inr (.inl e)))
      have HR2 := hid (HR.out.keep hk9 (fun e => by have := HLT.out; omega))
      clear HR
      have HR := HR2
      clear HR2
      have HB2 := hid (HB.out.keep hk9 (fun e => by have := HLT.out; omega))
      clear HB
      have HB := HB2
      clear HB2
      clear t0 t1 t2 t3 t4 t5 t6 t7 t8 t9 t10 t11 t12 t13 t14 t15 td ts tw tf tl
      clear hg9 hk9 HM HK
      have HM := HM2
      have HK := HK2
      clear HM2 HK2
      obtain ⟨t0, t1, t2, t3, t4, t5, t6, t7, t8, t9, t10, t11, t12, t13, t14, t15, td, ts, tw, tf, tl⟩ := HM.out.rc)
    cases hb : chc 1 4 x3.s
    · have HRR := hid (HRf.out hb)
      clear hb
      obtain ⟨hz0, hz1⟩ := roll_in 20 (x3.draw 4).s (by omega)
      go_upto_region 5 with (
        go_at_call 13
        (with_reducible refine (roll_any _ r _ _ HM.out.rng (by omega)).mono ?_)
        rintro e w5 ⟨rfl, hg9, hk9⟩
        have HM2 := hid (HM.out.draw hg9 hk9)
        have HK2 := hid (HK.out.trans hk9 (fun _ _ e => .inr (.inl e)))
        have HR2 := hid (HR.out.keep hk9 (fun e => by have := HLT.out; omega))
        clear HR
        have HR := HR2
        clear HR2
        have HB2 := hid (HB.out.keep hk9 (fun e => by have := HLT.out; omega))
        clear HB
        have HB := HB2
        clear HB2
        clear t0 t1 t2 t3 t4 t5 t6 t7 t8 t9 t10 t11 t12 t13 t14 t15 td ts tw tf tl
        clear hg9 hk9 HM HK
        have HM := HM2
        have HK := HK2
        clear HM2 HK2
        obtain ⟨t0, t1, t2, t3, t4, t5, t6, t7, t8, t9, t10, t11, t12, t13, t14, t15, td, ts, tw, tf, tl⟩ := HM.out.rc
        have c1 := HB.out.at_ 2
        have f1 := HB.out.free 2
        have l1 := HB.out.lt)
      clear c1 f1 l1
      generalize roll 20 (x3.draw 4).s = nn at *
      have hkp := (Keep.refl (· = ab) w5).put 2 (.int .i64 (1 + nn))
      have HM9 := hid (HM.out.far hkp (by have := HLT.out; omega) (by have := HLT.out; omega) (by have := HLT.out; omega))
      have HK9 := hid (HK.out.trans (hkp.wide (T := fun i => w.heap.size ≤ i) (fun i _ e => by omega)) (fun i hi e => by omega))
      have HR9 := hid (HR.out.keep hkp (by omega))
      have HB9 := hid (HB.out.put 2 (.int .i64 (1 + nn)))
      clear HM HK HR HB hkp
      clear t0 t1 t2 t3 t4 t5 t6 t7 t8 t9 t10 t11 t12 t13 t14 t15 td ts tw tf tl
      have HM := HM9
      have HK := HK9
      have HR := HR9
      clear HM9 HK9 HR9
      generalize w5.setCell ⟨ab, 2, none⟩ (.int .i64 (1 + nn)) = w8 at *
      have rr := HR.out.free
      have rlt := HR.out.lt
      have rz0 := HR.out.at_ 0
      have rz1 := HR.out.at_ 1
      have rz2 := HR.out.at_ 2
      have rz3 := HR.out.at_ 3
      have rz4 := HR.out.at_ 4
      have rz5 := HR.out.at_ 5
      have rz6 := HR.out.at_ 6
      have rz7 := HR.out.at_ 7
      have b0 : w8.cell? ⟨ab, 0, none⟩ = some (.int .i64 14) := (HB9.out.at_ 0).trans rfl
      have b1 : w8.cell? ⟨ab, 1, none⟩ = some (.int .i64 who) := (HB9.out.at_ 1).trans rfl
      have b2 : w8.cell? ⟨ab, 2, none⟩ = some (.int .i64 (1 + nn)) := (HB9.out.at_ 2).trans rfl
      have b3 : w8.cell? ⟨ab, 3, none⟩ = some (.int .i64 call) := (HB9.out.at_ 3).trans rfl
      have b4 : w8.cell? ⟨ab, 4, none⟩ = some (.int .i64 0) := (HB9.out.at_ 4).trans rfl
      have b5 : w8.cell? ⟨ab, 5, none⟩ = some (.int .i64 0) := (HB9.out.at_ 5).trans rfl
      have b6 : w8.cell? ⟨ab, 6, none⟩ = some (.slice none 0 0) := (HB9.out.at_ 6).trans rfl
      have b7 : w8.cell? ⟨ab, 7, none⟩ = some (.slice none 0 0) := (HB9.out.at_ 7).trans rfl
      have bl := HB9.out.lt
      go_wp2_with fail
      have HP := hid (Blk.put8 HR.out (.int .i64 14) (.int .i64 who) (.int .i64 (1 + nn)) (.int .i64 call) (.int .i64 0) (.int .i64 0) (.slice none 0 0) (.slice none 0 0))
      generalize ((((((((w8.setCell ⟨w.heap.size, 0, none⟩ (.int .i64 14)).setCell ⟨w.heap.size, 1, none⟩ (.int .i64 who)).setCell ⟨w.heap.size, 2, none⟩ (.int .i64 (1 + nn))).setCell ⟨w.heap.size, 3, none⟩ (.int .i64 call)).setCell ⟨w.heap.size, 4, none⟩ (.int .i64 0)).setCell ⟨w.heap.size, 5, none⟩ (.int .i64 0)).setCell ⟨w.heap.size, 6, none⟩ (.slice none 0 0)).setCell ⟨w.heap.size, 7, none⟩ (.slice none 0 0)) = w9 at *
      have r0 := HP.out.1.at_ 0
      have r1 := HP.out.1.at_ 1
      have r2 := HP.out.1.at_ 2
      have r3 := HP.out.1.at_ 3
      have r4 := HP.out.1.at_ 4
      have r5 := HP.out.1.at_ 5
      have r6 := HP.out.1.at_ 6
      have r7 := HP.out.1.at_ 7
      refine bodyPost_ret (v := .agg #[.int .i64 14, .int .i64 who, .int .i64 (1 + nn), .int .i64 call, .int .i64 0, .int .i64 0, .slice none 0 0, .slice none 0 0]) (by simp [results, Try.results56, go_sem, r0, r1, r2, r3, r4, r5, r6, r7]) rfl ?_
      exact ActPost.of (a := plA 14 who (1 + nn) call 0 0) rfl (by rw [HRR.out, plA_val]) HM.out HK.out HP.out.2 (Nat.le_refl _) HLT.out (AcK.plain _ _ _ _ _ _ _ _)
    · have HRR := hid (HRt.out hb)
      clear hb
      have c1 := HB.out.at_ 2
      have f1 := HB.out.free 2
      have l1 := HB.out.lt
      go_upto_region 5 with fail
      clear c1 f1 l1
      have hkp := (Keep.refl (· = ab) w4).put 2 (.int .i64 (4611686018427387904))
      have HM9 := hid (HM.out.far hkp (by have := HLT.out; omega) (by have := HLT.out; omega) (by have := HLT.out; omega))
      have HK9 := hid (HK.out.trans (hkp.wide (T := fun i => w.heap.size ≤ i) (fun i _ e => by omega)) (fun i hi e => by omega))
      have HR9 := hid (HR.out.keep hkp (by omega))
      have HB9 := hid (HB.out.put 2 (.int .i64 (4611686018427387904)))
      clear HM HK HR HB hkp
      clear t0 t1 t2 t3 t4 t5 t6 t7 t8 t9 t10 t11 t12 t13 t14 t15 td ts tw tf tl
      have HM := HM9
      have HK := HK9
      have HR := HR9
      clear HM9 HK9 HR9
      generalize w4.setCell ⟨ab, 2, none⟩ (.int .i64 (4611686018427387904)) = w8 at *
      have rr := HR.out.free
      have rlt := HR.out.lt
      have rz0 := HR.out.at_ 0
      have rz1 := HR.out.at_ 1
      have rz2 := HR.out.at_ 2
      have rz3 := HR.out.at_ 3
      have rz4 := HR.out.at_ 4
      have rz5 := HR.out.at_ 5
      have rz6 := HR.out.at_ 6
      have rz7 := HR.out.at_ 7
      have b0 : w8.cell? ⟨ab, 0, none⟩ = some (.int .i64 14) := (HB9.out.at_ 0).trans rfl
      have b1 : w8.cell? ⟨ab, 1, none⟩ = some (.int .i64 who) := (HB9.out.at_ 1).trans rfl
      have b2 : w8.cell? ⟨ab, 2, none⟩ = some (.int .i64 (4611686018427387904)) := (HB9.out.at_ 2).trans rfl
      have b3 : w8.cell? ⟨ab, 3, none⟩ = some (.int .i64 call) := (HB9.out.at_ 3).trans rfl
      have b4 : w8.cell? ⟨ab, 4, none⟩ = some (.int .i64 0) := (HB9.out.at_ 4).trans rfl
      have b5 : w8.cell? ⟨ab, 5, none⟩ = some (.int .i64 0) := (HB9.out.at_ 5).trans rfl
      have b6 : w8.cell? ⟨ab, 6, none⟩ = some (.slice none 0 0) := (HB9.out.at_ 6).trans rfl
      have b7 : w8.cell? ⟨ab, 7, none⟩ = some (.slice none 0 0) := (HB9.out.at_ 7).trans rfl
      have bl := HB9.out.lt
      go_wp2_with fail
      have HP := hid (Blk.put8 HR.out (.int .i64 14) (.int .i64 who) (.int .i64 (4611686018427387904)) (.int .i64 call) (.int .i64 0) (.int .i64 0) (.slice none 0 0) (.slice none 0 0))
      generalize ((((((((w8.setCell ⟨w.heap.size, 0, none⟩ (.int .i64 14)).setCell ⟨w.heap.size, 1, none⟩ (.int .i64 who)).setCell ⟨w.heap.size, 2, none⟩ (.int .i64 (4611686018427387904))).setCell ⟨w.heap.size, 3, none⟩ (.int .i64 call)).setCell ⟨w.heap.size, 4, none⟩ (.int .i64 0)).setCell ⟨w.heap.size, 5, none⟩ (.int .i64 0)).setCell ⟨w.heap.size, 6, none⟩ (.slice none 0 0)).setCell ⟨w.heap.size, 7, none⟩ (.slice none 0 0)) = w9 at *
      have r0 := HP.out.1.at_ 0
      have r1 := HP.out.1.at_ 1
      have r2 := HP.out.1.at_ 2
      have r3 := HP.out.1.at_ 3
      have r4 := HP.out.1.at_ 4
      have r5 := HP.out.1.at_ 5
      have r6 := HP.out.1.at_ 6
      have r7 := HP.out.1.at_ 7
      refine bodyPost_ret (v := .agg #[.int .i64 14, .int .i64 who, .int .i64 (4611686018427387904), .int .i64 call, .int .i64 0, .int .i64 0, .slice none 0 0, .slice none 0 0]) (by simp [results, Try.results56, go_sem, r0, r1, r2, r3, r4, r5, r6, r7]) rfl ?_
      exact ActPost.of (a := plA 14 who (4611686018427387904) call 0 0) rfl (by rw [HRR.out, plA_val]) HM.out HK.out HP.out.2 (Nat.le_refl _) HLT.out (AcK.plain _ _ _ _ _ _ _ _)
end
end Go.Proofs.Ytnejacmmbfeneaa

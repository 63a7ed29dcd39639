import Derived.Test.YtnejacmmbfeneaaGenD
namespace Go.Proofs.Ytnejacmmbfeneaa
open Go.RowKit Go.PlainAid

/-! ## The crews -/
def c1M (nu : Int) (x : AS) : AS := if 0 < nu then (if chc 1 2 x.s = true then ((x.draw 2).draw nu).add ⟨12, roll nu (x.draw 2).s, 0, 0, 0, 0, [], []⟩ else x.draw 2) else x
def c2M (nu rate : Int) (x : AS) : AS := if occ rate x.s = true then (if 0 < nu then ((x.draw 100).draw nu).add ⟨13, roll nu (x.draw 100).s, 0, 0, 0, 0, [], []⟩ else x.draw 100) else x.draw 100
def c3M (cen : Int) (x : AS) : AS := if chc 1 10 x.s = true then (((x.draw 10).draw cen).draw 20).add ⟨17, roll cen (x.draw 10).s, 0, 1 + roll 20 ((x.draw 10).draw cen).s, 0, 0, [], []⟩ else x.draw 10
theorem c1M_l (nu : Int) (x : AS) : (c1M nu x).l.length ≤ x.l.length + 1 := by
  unfold c1M
  by_cases h : 0 < nu
  · rw [if_pos h]
    by_cases h2 : chc 1 2 x.s = true
    · rw [if_pos h2, AS.add_l, AS.draw_l, AS.draw_l, List.length_append]; exact Nat.le_refl _
    · rw [if_neg h2, AS.draw_l]; exact Nat.le_succ _
  · rw [if_neg h]; exact Nat.le_succ _
theorem c2M_l (nu rate : Int) (x : AS) : (c2M nu rate x).l.length ≤ x.l.length + 1 := by
  unfold c2M
  by_cases h2 : occ rate x.s = true
  · rw [if_pos h2]
    by_cases h : 0 < nu
    · rw [if_pos h, AS.add_l, AS.draw_l, AS.draw_l, List.length_append]; exact Nat.le_refl _
    · rw [if_neg h, AS.draw_l]; exact Nat.le_succ _
  · rw [if_neg h2, AS.draw_l]; exact Nat.le_succ _
section
variable {B : Nat} {w : World} {g r : Nat} {c : CF} {m : RT} {x : AS} {A : Option Addr} {cp : Nat} {la : List AC}
set_option maxRecDepth 100000 in
set_option maxHeartbeats 8000000 in
theorem crews_any (h : GI B w g r c m x A cp la) (hw : B ≤ w.heap.size) (hl : x.l.length ≤ 99000) (hc1 : 1 ≤ c.cen) (hc2 : c.cen ≤ 9) (hu : (c.uni.length : Int) ≤ 256) : Calls Try.prog 51 #[.pointer (some ⟨g, 0, none⟩)] w (StepPost B w g r c m (c3M c.cen (c2M c.uni.length m.a6 (c1M c.uni.length x)))) := by
  have HI := hid h
  have HKB := hid (Keep.refl (B ≤ ·) w)
  clear h
  obtain ⟨q0, q1, q2, q3, q4, r0, r1, r2, r3, r4, r5, r6, qd, qs, ql, qf, qg⟩ := HI.out.gm.gc
  by_cases hnu : 0 < (c.uni.length : Int)
  · go_enter Try.func51, Try.ntmps51
    go_upto_if 18 with (
      go_at_call 14
      (with_reducible refine (chance_any _ r _ _ _ HI.out.gm.rng (by omega)).mono ?_)
      rintro e u1 ⟨rfl, hg9, hk9⟩
      have HKB2 := hid (HKB.out.trans (HI.out.keepR hk9) (fun _ _ e => e))
      have HI2 := hid (HI.out.draw hg9 hk9)
      clear hg9 hk9 HI HKB
      have HI := HI2
      have HKB := HKB2
      clear HI2 HKB2
      clear q0 q1 q2 q3 q4 r0 r1 r2 r3 r4 r5 r6 qd qs ql qf qg
      obtain ⟨q0, q1, q2, q3, q4, r0, r1, r2, r3, r4, r5, r6, qd, qs, ql, qf, qg⟩ := HI.out.gm.gc
      try simp only [AS.draw_di] at qd)
    go_cut [] from 4 (fun w' => Hid (GI.Ex B w' g r c m (c1M c.uni.length x) ∧ Keep (B ≤ ·) w w'))
    case first =>
      cases hb : chc 1 2 x.s
      · have HBB := hid (show c1M c.uni.length x = x.draw 2 by rw [c1M, if_pos hnu, hb]; rfl)
        clear hb
        go_wp2_with fail
        go_meet
        exact hid ⟨by rw [HBB.out]; exact ⟨_, _, _, HI.out⟩, HKB.out⟩
      · have HBB := hid (show c1M c.uni.length x = ((x.draw 2).draw c.uni.length).add ⟨12, roll c.uni.length (x.draw 2).s, 0, 0, 0, 0, [], []⟩ by rw [c1M, if_pos hnu, hb]; rfl)
        clear hb
        go_wp2_with (first
          | (
            go_at_call 12
            (with_reducible refine (intn_any _ r _ _ HI.out.gm.rng (by omega)).mono ?_)
            rintro e u2 ⟨rfl, hg9, hk9⟩
            have HKB2 := hid (HKB.out.trans (HI.out.keepR hk9) (fun _ _ e => e))
            have HI2 := hid (HI.out.draw hg9 hk9)
            clear hg9 hk9 HI HKB
            have HI := HI2
            have HKB := HKB2
            clear HI2 HKB2
            clear q0 q1 q2 q3 q4 r0 r1 r2 r3 r4 r5 r6 qd qs ql qf qg
            obtain ⟨q0, q1, q2, q3, q4, r0, r1, r2, r3, r4, r5, r6, qd, qs, ql, qf, qg⟩ := HI.out.gm.gc
            try simp only [AS.draw_di] at qd)
          | (
            go_at_call 47
            have hadd := add_any HI.out.gm (plA 12 (roll c.uni.length (x.draw 2).s) 0 0 0 0) (plA_ok _ _ _ _ _ _ _ _) (by rw [HI.out.len]; simp only [AS.draw_l]; omega)
            rw [plA_cells] at hadd
            (with_reducible refine hadd.mono ?_)
            rintro e u3 ⟨rfl, ⟨A9, cp9, hg9, hq9⟩, hk9⟩
            have HI2 := hid (HI.out.added (Nat.le_trans hw HKB.out.size) hg9 hk9 hq9 (plA_val _ _ _ _ _ _))
            have HKB2 := hid (HKB.out.trans (HI.out.keepA hk9) (fun _ _ e => e))
            clear hg9 hq9 hk9 hadd HI HKB
            have HI := HI2
            have HKB := HKB2
            clear HI2 HKB2
            clear q0 q1 q2 q3 q4 r0 r1 r2 r3 r4 r5 r6 qd qs ql qf qg
            obtain ⟨q0, q1, q2, q3, q4, r0, r1, r2, r3, r4, r5, r6, qd, qs, ql, qf, qg⟩ := HI.out.gm.gc
            try simp only [AS.draw_di, AS.add_di] at qd))
        go_meet
        exact hid ⟨by rw [HBB.out]; exact ⟨_, _, _, HI.out⟩, HKB.out⟩
    case rest =>
      obtain ⟨⟨A, cp, la, hI⟩, hKB⟩ := hcut.out
      have hl1 := c1M_l c.uni.length x
      clear hcut HI HKB
      clear q0 q1 q2 q3 q4 r0 r1 r2 r3 r4 r5 r6 qd qs ql qf qg
      have HI := hid hI
      have HKB := hid hKB
      clear hI hKB
      generalize c1M c.uni.length x = x1 at *
      obtain ⟨q0, q1, q2, q3, q4, r0, r1, r2, r3, r4, r5, r6, qd, qs, ql, qf, qg⟩ := HI.out.gm.gc
      have HDf := hid (show occ m.a6 x1.s = false → c2M c.uni.length m.a6 x1 = x1.draw 100 from fun hb => by rw [c2M, hb]; rfl)
      have HDt := hid (show occ m.a6 x1.s = true → c2M c.uni.length m.a6 x1 = ((x1.draw 100).draw c.uni.length).add ⟨13, roll c.uni.length (x1.draw 100).s, 0, 0, 0, 0, [], []⟩ from fun hb => by rw [c2M, hb, if_pos rfl, if_pos hnu])
      have hl2 := c2M_l c.uni.length m.a6 x1
      cases hb : occ m.a6 x1.s
      · have HBB := hid (HDf.out hb)
        have HBQ := hid hb
        clear hb
        go_upto_region 5 with (
          go_at_call 62
          (with_reducible refine (occurs_any HI.out.gm _).mono ?_)
          rintro e pa ⟨rfl, hg9, hk9⟩
          have HKB2 := hid (HKB.out.trans (HI.out.keepR hk9) (fun _ _ e => e))
          have HI2 := hid (HI.out.draw hg9 hk9)
          clear hg9 hk9 HI HKB
          have HI := HI2
          have HKB := HKB2
          clear HI2 HKB2
          clear q0 q1 q2 q3 q4 r0 r1 r2 r3 r4 r5 r6 qd qs ql qf qg
          obtain ⟨q0, q1, q2, q3, q4, r0, r1, r2, r3, r4, r5, r6, qd, qs, ql, qf, qg⟩ := HI.out.gm.gc
          try simp only [AS.draw_di] at qd
          rw [HBQ.out])
        clear q0 q1 q2 q3 q4 r0 r1 r2 r3 r4 r5 r6 qd qs ql qf qg
        have HI2 := HI
        rw [← HBB.out] at HI2
        clear HI HBB HDf HDt
        have HI := HI2
        clear HI2
        generalize c2M c.uni.length m.a6 x1 = x2 at *
        obtain ⟨q0, q1, q2, q3, q4, r0, r1, r2, r3, r4, r5, r6, qd, qs, ql, qf, qg⟩ := HI.out.gm.gc
        have hx2 : x2.l.length ≤ 99010 := by omega
        have HEf := hid (show chc 1 10 x2.s = false → c3M c.cen x2 = x2.draw 10 from fun hb => by rw [c3M, hb]; rfl)
        have HEt := hid (show chc 1 10 x2.s = true → c3M c.cen x2 = (((x2.draw 10).draw c.cen).draw 20).add ⟨17, roll c.cen (x2.draw 10).s, 0, 1 + roll 20 ((x2.draw 10).draw c.cen).s, 0, 0, [], []⟩ from fun hb => by rw [c3M, hb, if_pos rfl])
        go_upto_if 58 with (
          go_at_call 14
          (with_reducible refine (chance_any _ r _ _ _ HI.out.gm.rng (by omega)).mono ?_)
          rintro e pd ⟨rfl, hg9, hk9⟩
          have HKB2 := hid (HKB.out.trans (HI.out.keepR hk9) (fun _ _ e => e))
          have HI2 := hid (HI.out.draw hg9 hk9)
          clear hg9 hk9 HI HKB
          have HI := HI2
          have HKB := HKB2
          clear HI2 HKB2
          clear q0 q1 q2 q3 q4 r0 r1 r2 r3 r4 r5 r6 qd qs ql qf qg
          obtain ⟨q0, q1, q2, q3, q4, r0, r1, r2, r3, r4, r5, r6, qd, qs, ql, qf, qg⟩ := HI.out.gm.gc
          try simp only [AS.draw_di] at qd)
        cases hb : chc 1 10 x2.s
        · have HBB := hid (HEf.out hb)
          clear hb
          go_wp2_with fail
          go_end0
          exact ⟨rfl, by rw [HBB.out]; exact ⟨_, _, _, HI.out⟩, HKB.out⟩
        · have HBB := hid (HEt.out hb)
          clear hb
          obtain ⟨hq0, hq1⟩ := roll_in 20 ((x2.draw 10).draw c.cen).s (by omega)
          go_upto_region 7 with (
            go_at_call 12
            (with_reducible refine (intn_any _ r _ _ HI.out.gm.rng (by omega)).mono ?_)
            rintro e pe ⟨rfl, hg9, hk9⟩
            have HKB2 := hid (HKB.out.trans (HI.out.keepR hk9) (fun _ _ e => e))
            have HI2 := hid (HI.out.draw hg9 hk9)
            clear hg9 hk9 HI HKB
            have HI := HI2
            have HKB := HKB2
            clear HI2 HKB2
            clear q0 q1 q2 q3 q4 r0 r1 r2 r3 r4 r5 r6 qd qs ql qf qg
            obtain ⟨q0, q1, q2, q3, q4, r0, r1, r2, r3, r4, r5, r6, qd, qs, ql, qf, qg⟩ := HI.out.gm.gc
            try simp only [AS.draw_di] at qd)
          go_wp2_with (first
            | (
              go_at_call 12
              (with_reducible refine (intn_any _ r _ _ HI.out.gm.rng (by omega)).mono ?_)
              rintro e pf ⟨rfl, hg9, hk9⟩
              have HKB2 := hid (HKB.out.trans (HI.out.keepR hk9) (fun _ _ e => e))
              have HI2 := hid (HI.out.draw hg9 hk9)
              clear hg9 hk9 HI HKB
              have HI := HI2
              have HKB := HKB2
              clear HI2 HKB2
              clear q0 q1 q2 q3 q4 r0 r1 r2 r3 r4 r5 r6 qd qs ql qf qg
              obtain ⟨q0, q1, q2, q3, q4, r0, r1, r2, r3, r4, r5, r6, qd, qs, ql, qf, qg⟩ := HI.out.gm.gc
              try simp only [AS.draw_di] at qd)
            | (
              go_at_call 47
              have hadd := add_any HI.out.gm (plA 17 (roll c.cen (x2.draw 10).s) 0 (1 + roll 20 ((x2.draw 10).draw c.cen).s) 0 0) (plA_ok _ _ _ _ _ _ _ _) (by rw [HI.out.len]; simp only [AS.draw_l]; omega)
              rw [plA_cells] at hadd
              (with_reducible refine hadd.mono ?_)
              rintro e pg ⟨rfl, ⟨A9, cp9, hg9, hq9⟩, hk9⟩
              have HI2 := hid (HI.out.added (Nat.le_trans hw HKB.out.size) hg9 hk9 hq9 (plA_val _ _ _ _ _ _))
              have HKB2 := hid (HKB.out.trans (HI.out.keepA hk9) (fun _ _ e => e))
              clear hg9 hq9 hk9 hadd HI HKB
              have HI := HI2
              have HKB := HKB2
              clear HI2 HKB2
              clear q0 q1 q2 q3 q4 r0 r1 r2 r3 r4 r5 r6 qd qs ql qf qg
              obtain ⟨q0, q1, q2, q3, q4, r0, r1, r2, r3, r4, r5, r6, qd, qs, ql, qf, qg⟩ := HI.out.gm.gc
              try simp only [AS.draw_di, AS.add_di] at qd))
          go_end0
          exact ⟨rfl, by rw [HBB.out]; exact ⟨_, _, _, HI.out⟩, HKB.out⟩
      · have HBB := hid (HDt.out hb)
        have HBQ := hid hb
        clear hb
        go_upto_region 5 with (first
          | (
            go_at_call 62
            (with_reducible refine (occurs_any HI.out.gm _).mono ?_)
            rintro e pa ⟨rfl, hg9, hk9⟩
            have HKB2 := hid (HKB.out.trans (HI.out.keepR hk9) (fun _ _ e => e))
            have HI2 := hid (HI.out.draw hg9 hk9)
            clear hg9 hk9 HI HKB
            have HI := HI2
            have HKB := HKB2
            clear HI2 HKB2
            clear q0 q1 q2 q3 q4 r0 r1 r2 r3 r4 r5 r6 qd qs ql qf qg
            obtain ⟨q0, q1, q2, q3, q4, r0, r1, r2, r3, r4, r5, r6, qd, qs, ql, qf, qg⟩ := HI.out.gm.gc
            try simp only [AS.draw_di] at qd
            rw [HBQ.out])
          | (
            go_at_call 12
            (with_reducible refine (intn_any _ r _ _ HI.out.gm.rng (by omega)).mono ?_)
            rintro e pb ⟨rfl, hg9, hk9⟩
            have HKB2 := hid (HKB.out.trans (HI.out.keepR hk9) (fun _ _ e => e))
            have HI2 := hid (HI.out.draw hg9 hk9)
            clear hg9 hk9 HI HKB
            have HI := HI2
            have HKB := HKB2
            clear HI2 HKB2
            clear q0 q1 q2 q3 q4 r0 r1 r2 r3 r4 r5 r6 qd qs ql qf qg
            obtain ⟨q0, q1, q2, q3, q4, r0, r1, r2, r3, r4, r5, r6, qd, qs, ql, qf, qg⟩ := HI.out.gm.gc
            try simp only [AS.draw_di] at qd)
          | (
            go_at_call 47
            have hadd := add_any HI.out.gm (plA 13 (roll c.uni.length (x1.draw 100).s) 0 0 0 0) (plA_ok _ _ _ _ _ _ _ _) (by rw [HI.out.len]; simp only [AS.draw_l]; omega)
            rw [plA_cells] at hadd
            (with_reducible refine hadd.mono ?_)
            rintro e pc ⟨rfl, ⟨A9, cp9, hg9, hq9⟩, hk9⟩
            have HI2 := hid (HI.out.added (Nat.le_trans hw HKB.out.size) hg9 hk9 hq9 (plA_val _ _ _ _ _ _))
            have HKB2 := hid (HKB.out.trans (HI.out.keepA hk9) (fun _ _ e => e))
            clear hg9 hq9 hk9 hadd HI HKB
            have HI := HI2
            have HKB := HKB2
            clear HI2 HKB2
            clear q0 q1 q2 q3 q4 r0 r1 r2 r3 r4 r5 r6 qd qs ql qf qg
            obtain ⟨q0, q1, q2, q3, q4, r0, r1, r2, r3, r4, r5, r6, qd, qs, ql, qf, qg⟩ := HI.out.gm.gc
            try simp only [AS.draw_di, AS.add_di] at qd))
        clear q0 q1 q2 q3 q4 r0 r1 r2 r3 r4 r5 r6 qd qs ql qf qg
        have HI2 := HI
        rw [← HBB.out] at HI2
        clear HI HBB HDf HDt
        have HI := HI2
        clear HI2
        generalize c2M c.uni.length m.a6 x1 = x2 at *
        obtain ⟨q0, q1, q2, q3, q4, r0, r1, r2, r3, r4, r5, r6, qd, qs, ql, qf, qg⟩ := HI.out.gm.gc
        have hx2 : x2.l.length ≤ 99010 := by omega
        have HEf := hid (show chc 1 10 x2.s = false → c3M c.cen x2 = x2.draw 10 from fun hb => by rw [c3M, hb]; rfl)
        have HEt := hid (show chc 1 10 x2.s = true → c3M c.cen x2 = (((x2.draw 10).draw c.cen).draw 20).add ⟨17, roll c.cen (x2.draw 10).s, 0, 1 + roll 20 ((x2.draw 10).draw c.cen).s, 0, 0, [], []⟩ from fun hb => by rw [c3M, hb, if_pos rfl])
        go_upto_if 58 with (
          go_at_call 14
          (with_reducible refine (chance_any _ r _ _ _ HI.out.gm.rng (by omega)).mono ?_)
          rintro e pd ⟨rfl, hg9, hk9⟩
          have HKB2 := hid (HKB.out.trans (HI.out.keepR hk9) (fun _ _ e => e))
          have HI2 := hid (HI.out.draw hg9 hk9)
          clear hg9 hk9 HI HKB
          have HI := HI2
          have HKB := HKB2
          clear HI2 HKB2
          clear q0 q1 q2 q3 q4 r0 r1 r2 r3 r4 r5 r6 qd qs ql qf qg
          obtain ⟨q0, q1, q2, q3, q4, r0, r1, r2, r3, r4, r5, r6, qd, qs, ql, qf, qg⟩ := HI.out.gm.gc
          try simp only [AS.draw_di] at qd)
        cases hb : chc 1 10 x2.s
        · have HBB := hid (HEf.out hb)
          clear hb
          go_wp2_with fail
          go_end0
          exact ⟨rfl, by rw [HBB.out]; exact ⟨_, _, _, HI.out⟩, HKB.out⟩
        · have HBB := hid (HEt.out hb)
          clear hb
          obtain ⟨hq0, hq1⟩ := roll_in 20 ((x2.draw 10).draw c.cen).s (by omega)
          go_upto_region 7 with (
            go_at_call 12
            (with_reducible refine (intn_any _ r _ _ HI.out.gm.rng (by omega)).mono ?_)
            rintro e pe ⟨rfl, hg9, hk9⟩
            have HKB2 := hid (HKB.out.trans (HI.out.keepR hk9) (fun _ _ e => e))
            have HI2 := hid (HI.out.draw hg9 hk9)
            clear hg9 hk9 HI HKB
            have HI := HI2
            have HKB := HKB2
            clear HI2 HKB2
            clear q0 q1 q2 q3 q4 r0 r1 r2 r3 r4 r5 r6 qd qs ql qf qg
            obtain ⟨q0, q1, q2, q3, q4, r0, r1, r2, r3, r4, r5, r6, qd, qs, ql, qf, qg⟩ := HI.out.gm.gc
            try simp only [AS.draw_di] at qd)
          go_wp2_with (first
            | (
              go_at_call 12
              (with_reducible refine (intn_any _ r _ _ HI.out.gm.rng (by omega)).mono ?_)
              rintro e pf ⟨rfl, hg9, hk9⟩
              have HKB2 := hid (HKB.out.trans (HI.out.keepR hk9) (fun _ _ e => e))
              have HI2 := hid (HI.out.draw hg9 hk9)
              clear hg9 hk9 HI HKB
              have HI := HI2
              have HKB := HKB2
              clear HI2 HKB2
              clear q0 q1 q2 q3 q4 r0 r1 r2 r3 r4 r5 r6 qd qs ql qf qg
              obtain ⟨q0, q1, q2, q3, q4, r0, r1, r2, r3, r4, r5, r6, qd, qs, ql, qf, qg⟩ := HI.out.gm.gc
              try simp only [AS.draw_di] at qd)
            | (
              go_at_call 47
              have hadd := add_any HI.out.gm (plA 17 (roll c.cen (x2.draw 10).s) 0 (1 + roll 20 ((x2.draw 10).draw c.cen).s) 0 0) (plA_ok _ _ _ _ _ _ _ _) (by rw [HI.out.len]; simp only [AS.draw_l]; omega)
              rw [plA_cells] at hadd
              (with_reducible refine hadd.mono ?_)
              rintro e pg ⟨rfl, ⟨A9, cp9, hg9, hq9⟩, hk9⟩
              have HI2 := hid (HI.out.added (Nat.le_trans hw HKB.out.size) hg9 hk9 hq9 (plA_val _ _ _ _ _ _))
              have HKB2 := hid (HKB.out.trans (HI.out.keepA hk9) (fun _ _ e => e))
              clear hg9 hq9 hk9 hadd HI HKB
              have HI := HI2
              have HKB := HKB2
              clear HI2 HKB2
              clear q0 q1 q2 q3 q4 r0 r1 r2 r3 r4 r5 r6 qd qs ql qf qg
              obtain ⟨q0, q1, q2, q3, q4, r0, r1, r2, r3, r4, r5, r6, qd, qs, ql, qf, qg⟩ := HI.out.gm.gc
              try simp only [AS.draw_di, AS.add_di] at qd))
          go_end0
          exact ⟨rfl, by rw [HBB.out]; exact ⟨_, _, _, HI.out⟩, HKB.out⟩
  · have HD0 := hid (show c1M c.uni.length x = x by rw [c1M, if_neg hnu])
    have hl1 : x.l.length ≤ x.l.length + 1 := Nat.le_succ _
    have HDf := hid (show occ m.a6 x.s = false → c2M c.uni.length m.a6 x = x.draw 100 from fun hb => by rw [c2M, hb]; rfl)
    have HDt := hid (show occ m.a6 x.s = true → c2M c.uni.length m.a6 x = x.draw 100 from fun hb => by rw [c2M, hb, if_pos rfl, if_neg hnu])
    rw [HD0.out]
    go_enter Try.func51, Try.ntmps51
    go_upto_region 3 with fail
    have hl2 := c2M_l c.uni.length m.a6 x
    cases hb : occ m.a6 x.s
    · have HBB := hid (HDf.out hb)
      have HBQ := hid hb
      clear hb
      go_upto_region 5 with (
        go_at_call 62
        (with_reducible refine (occurs_any HI.out.gm _).mono ?_)
        rintro e za ⟨rfl, hg9, hk9⟩
        have HKB2 := hid (HKB.out.trans (HI.out.keepR hk9) (fun _ _ e => e))
        have HI2 := hid (HI.out.draw hg9 hk9)
        clear hg9 hk9 HI HKB
        have HI := HI2
        have HKB := HKB2
        clear HI2 HKB2
        clear q0 q1 q2 q3 q4 r0 r1 r2 r3 r4 r5 r6 qd qs ql qf qg
        obtain ⟨q0, q1, q2, q3, q4, r0, r1, r2, r3, r4, r5, r6, qd, qs, ql, qf, qg⟩ := HI.out.gm.gc
        try simp only [AS.draw_di] at qd
        rw [HBQ.out])
      clear q0 q1 q2 q3 q4 r0 r1 r2 r3 r4 r5 r6 qd qs ql qf qg
      have HI2 := HI
      rw [← HBB.out] at HI2
      clear HI HBB HDf HDt
      have HI := HI2
      clear HI2
      generalize c2M c.uni.length m.a6 x = x2 at *
      obtain ⟨q0, q1, q2, q3, q4, r0, r1, r2, r3, r4, r5, r6, qd, qs, ql, qf, qg⟩ := HI.out.gm.gc
      have hx2 : x2.l.length ≤ 99010 := by omega
      have HEf := hid (show chc 1 10 x2.s = false → c3M c.cen x2 = x2.draw 10 from fun hb => by rw [c3M, hb]; rfl)
      have HEt := hid (show chc 1 10 x2.s = true → c3M c.cen x2 = (((x2.draw 10).draw c.cen).draw 20).add ⟨17, roll c.cen (x2.draw 10).s, 0, 1 + roll 20 ((x2.draw 10).draw c.cen).s, 0, 0, [], []⟩ from fun hb => by rw [c3M, hb, if_pos rfl])
      go_upto_if 58 with (
        go_at_call 14
        (with_reducible refine (chance_any _ r _ _ _ HI.out.gm.rng (by omega)).mono ?_)
        rintro e zd ⟨rfl, hg9, hk9⟩
        have HKB2 := hid (HKB.out.trans (HI.out.keepR hk9) (fun _ _ e => e))
        have HI2 := hid (HI.out.draw hg9 hk9)
        clear hg9 hk9 HI HKB
        have HI := HI2
        have HKB := HKB2
        clear HI2 HKB2
        clear q0 q1 q2 q3 q4 r0 r1 r2 r3 r4 r5 r6 qd qs ql qf qg
        obtain ⟨q0, q1, q2, q3, q4, r0, r1, r2, r3, r4, r5, r6, qd, qs, ql, qf, qg⟩ := HI.out.gm.gc
        try simp only [AS.draw_di] at qd)
      cases hb : chc 1 10 x2.s
      · have HBB := hid (HEf.out hb)
        clear hb
        go_wp2_with fail
        go_end0
        exact ⟨rfl, by rw [HBB.out]; exact ⟨_, _, _, HI.out⟩, HKB.out⟩
      · have HBB := hid (HEt.out hb)
        clear hb
        obtain ⟨hq0, hq1⟩ := roll_in 20 ((x2.draw 10).draw c.cen).s (by omega)
        go_upto_region 7 with (
          go_at_call 12
          (with_reducible refine (intn_any _ r _ _ HI.out.gm.rng (by omega)).mono ?_)
          rintro e ze ⟨rfl, hg9, hk9⟩
          have HKB2 := hid (HKB.out.trans (HI.out.keepR hk9) (fun _ _ e => e))
          have HI2 := hid (HI.out.draw hg9 hk9)
          clear hg9 hk9 HI HKB
          have HI := HI2
          have HKB := HKB2
          clear HI2 HKB2
          clear q0 q1 q2 q3 q4 r0 r1 r2 r3 r4 r5 r6 qd qs ql qf qg
          obtain ⟨q0, q1, q2, q3, q4, r0, r1, r2, r3, r4, r5, r6, qd, qs, ql, qf, qg⟩ := HI.out.gm.gc
          try simp only [AS.draw_di] at qd)
        go_wp2_with (first
          | (
            go_at_call 12
            (with_reducible refine (intn_any _ r _ _ HI.out.gm.rng (by omega)).mono ?_)
            rintro e zf ⟨rfl, hg9, hk9⟩
            have HKB2 := hid (HKB.out.trans (HI.out.keepR hk9) (fun _ _ e => e))
            have HI2 := hid (HI.out.draw hg9 hk9)
            clear hg9 hk9 HI HKB
            have HI := HI2
            have HKB := HKB2
            clear HI2 HKB2
            clear q0 q1 q2 q3 q4 r0 r1 r2 r3 r4 r5 r6 qd qs ql qf qg
            obtain ⟨q0, q1, q2, q3, q4, r0, r1, r2, r3, r4, r5, r6, qd, qs, ql, qf, qg⟩ := HI.out.gm.gc
            try simp only [AS.draw_di] at qd)
          | (
            go_at_call 47
            have hadd := add_any HI.out.gm (plA 17 (roll c.cen (x2.draw 10).s) 0 (1 + roll 20 ((x2.draw 10).draw c.cen).s) 0 0) (plA_ok _ _ _ _ _ _ _ _) (by rw [HI.out.len]; simp only [AS.draw_l]; omega)
            rw [plA_cells] at hadd
            (with_reducible refine hadd.mono ?_)
            rintro e zg ⟨rfl, ⟨A9, cp9, hg9, hq9⟩, hk9⟩
            have HI2 := hid (HI.out.added (Nat.le_trans hw HKB.out.size) hg9 hk9 hq9 (plA_val _ _ _ _ _ _))
            have HKB2 := hid (HKB.out.trans (HI.out.keepA hk9) (fun _ _ e => e))
            clear hg9 hq9 hk9 hadd HI HKB
            have HI := HI2
            have HKB := HKB2
            clear HI2 HKB2
            clear q0 q1 q2 q3 q4 r0 r1 r2 r3 r4 r5 r6 qd qs ql qf qg
            obtain ⟨q0, q1, q2, q3, q4, r0, r1, r2, r3, r4, r5, r6, qd, qs, ql, qf, qg⟩ := HI.out.gm.gc
            try simp only [AS.draw_di, AS.add_di] at qd))
        go_end0
        exact ⟨rfl, by rw [HBB.out]; exact ⟨_, _, _, HI.out⟩, HKB.out⟩
    · have HBB := hid (HDt.out hb)
      have HBQ := hid hb
      clear hb
      go_upto_region 5 with (
        go_at_call 62
        (with_reducible refine (occurs_any HI.out.gm _).mono ?_)
        rintro e za ⟨rfl, hg9, hk9⟩
        have HKB2 := hid (HKB.out.trans (HI.out.keepR hk9) (fun _ _ e => e))
        have HI2 := hid (HI.out.draw hg9 hk9)
        clear hg9 hk9 HI HKB
        have HI := HI2
        have HKB := HKB2
        clear HI2 HKB2
        clear q0 q1 q2 q3 q4 r0 r1 r2 r3 r4 r5 r6 qd qs ql qf qg
        obtain ⟨q0, q1, q2, q3, q4, r0, r1, r2, r3, r4, r5, r6, qd, qs, ql, qf, qg⟩ := HI.out.gm.gc
        try simp only [AS.draw_di] at qd
        rw [HBQ.out])
      clear q0 q1 q2 q3 q4 r0 r1 r2 r3 r4 r5 r6 qd qs ql qf qg
      have HI2 := HI
      rw [← HBB.out] at HI2
      clear HI HBB HDf HDt
      have HI := HI2
      clear HI2
      generalize c2M c.uni.length m.a6 x = x2 at *
      obtain ⟨q0, q1, q2, q3, q4, r0, r1, r2, r3, r4, r5, r6, qd, qs, ql, qf, qg⟩ := HI.out.gm.gc
      have hx2 : x2.l.length ≤ 99010 := by omega
      have HEf := hid (show chc 1 10 x2.s = false → c3M c.cen x2 = x2.draw 10 from fun hb => by rw [c3M, hb]; rfl)
      have HEt := hid (show chc 1 10 x2.s = true → c3M c.cen x2 = (((x2.draw 10).draw c.cen).draw 20).add ⟨17, roll c.cen (x2.draw 10).s, 0, 1 + roll 20 ((x2.draw 10).draw c.cen).s, 0, 0, [], []⟩ from fun hb => by rw [c3M, hb, if_pos rfl])
      go_upto_if 58 with (
        go_at_call 14
        (with_reducible refine (chance_any _ r _ _ _ HI.out.gm.rng (by omega)).mono ?_)
        rintro e zd ⟨rfl, hg9, hk9⟩
        have HKB2 := hid (HKB.out.trans (HI.out.keepR hk9) (fun _ _ e => e))
        have HI2 := hid (HI.out.draw hg9 hk9)
        clear hg9 hk9 HI HKB
        have HI := HI2
        have HKB := HKB2
        clear HI2 HKB2
        clear q0 q1 q2 q3 q4 r0 r1 r2 r3 r4 r5 r6 qd qs ql qf qg
        obtain ⟨q0, q1, q2, q3, q4, r0, r1, r2, r3, r4, r5, r6, qd, qs, ql, qf, qg⟩ := HI.out.gm.gc
        try simp only [AS.draw_di] at qd)
      cases hb : chc 1 10 x2.s
      · have HBB := hid (HEf.out hb)
        clear hb
        go_wp2_with fail
        go_end0
        exact ⟨rfl, by rw [HBB.out]; exact ⟨_, _, _, HI.out⟩, HKB.out⟩
      · have HBB := hid (HEt.out hb)
        clear hb
        obtain ⟨hq0, hq1⟩ := roll_in 20 ((x2.draw 10).draw c.cen).s (by omega)
        go_upto_region 7 with (
          go_at_call 12
          (with_reducible refine (intn_any _ r _ _ HI.out.gm.rng (by omega)).mono ?_)
          rintro e ze ⟨rfl, hg9, hk9⟩
          have HKB2 := hid (HKB.out.trans (HI.out.keepR hk9) (fun _ _ e => e))
          have HI2 := hid (HI.out.draw hg9 hk9)
          clear hg9 hk9 HI HKB
          have HI := HI2
          have HKB := HKB2
          clear HI2 HKB2
          clear q0 q1 q2 q3 q4 r0 r1 r2 r3 r4 r5 r6 qd qs ql qf qg
          obtain ⟨q0, q1, q2, q3, q4, r0, r1, r2, r3, r4, r5, r6, qd, qs, ql, qf, qg⟩ := HI.out.gm.gc
          try simp only [AS.draw_di] at qd)
        go_wp2_with (first
          | (
            go_at_call 12
            (with_reducible refine (intn_any _ r _ _ HI.out.gm.rng (by omega)).mono ?_)
            rintro e zf ⟨rfl, hg9, hk9⟩
            have HKB2 := hid (HKB.out.trans (HI.out.keepR hk9) (fun _ _ e => e))
            have HI2 := hid (HI.out.draw hg9 hk9)
            clear hg9 hk9 HI HKB
            have HI := HI2
            have HKB := HKB2
            clear HI2 HKB2
            clear q0 q1 q2 q3 q4 r0 r1 r2 r3 r4 r5 r6 qd qs ql qf qg
            obtain ⟨q0, q1, q2, q3, q4, r0, r1, r2, r3, r4, r5, r6, qd, qs, ql, qf, qg⟩ := HI.out.gm.gc
            try simp only [AS.draw_di] at qd)
          | (
            go_at_call 47
            have hadd := add_any HI.out.gm (plA 17 (roll c.cen (x2.draw 10).s) 0 (1 + roll 20 ((x2.draw 10).draw c.cen).s) 0 0) (plA_ok _ _ _ _ _ _ _ _) (by rw [HI.out.len]; simp only [AS.draw_l]; omega)
            rw [plA_cells] at hadd
            (with_reducible refine hadd.mono ?_)
            rintro e zg ⟨rfl, ⟨A9, cp9, hg9, hq9⟩, hk9⟩
            have HI2 := hid (HI.out.added (Nat.le_trans hw HKB.out.size) hg9 hk9 hq9 (plA_val _ _ _ _ _ _))
            have HKB2 := hid (HKB.out.trans (HI.out.keepA hk9) (fun _ _ e => e))
            clear hg9 hq9 hk9 hadd HI HKB
            have HI := HI2
            have HKB := HKB2
            clear HI2 HKB2
            clear q0 q1 q2 q3 q4 r0 r1 r2 r3 r4 r5 r6 qd qs ql qf qg
            obtain ⟨q0, q1, q2, q3, q4, r0, r1, r2, r3, r4, r5, r6, qd, qs, ql, qf, qg⟩ := HI.out.gm.gc
            try simp only [AS.draw_di, AS.add_di] at qd))
        go_end0
        exact ⟨rfl, by rw [HBB.out]; exact ⟨_, _, _, HI.out⟩, HKB.out⟩
end
end Go.Proofs.Ytnejacmmbfeneaa

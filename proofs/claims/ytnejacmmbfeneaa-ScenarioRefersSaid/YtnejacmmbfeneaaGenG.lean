import Derived.Test.YtnejacmmbfeneaaGenE
import Derived.RegionTactic
import Derived.ChangeAlike
namespace Go.Proofs.Ytnejacmmbfeneaa
open Go.RowKit Go.PlainAid

/-! ## Failures -/
def AS.crash (x : AS) (k : Nat) : AS := ⟨x.s, x.di, x.sp, x.dn.set k (!x.dn.getD k false), x.l⟩
def crashM (k : Nat) (x : AS) : AS := if x.dn.getD k false = true then (x.add ⟨11, k, 0, 0, 0, 0, [], []⟩).crash k else ((x.draw 64).add ⟨10, k, roll 64 x.s, 0, 0, 0, [], []⟩).crash k
def f1M (cen rate : Int) (x : AS) : AS := if occ rate x.s = true then crashM (roll cen (x.draw 100).s).toNat ((x.draw 100).draw cen) else x.draw 100
def roadM (who call : Int) (x : AS) : AS := if chc 1 4 x.s = true then (x.draw 4).add ⟨14, who, 4611686018427387904, call, 0, 0, [], []⟩ else ((x.draw 4).draw 20).add ⟨14, who, 1 + roll 20 (x.draw 4).s, call, 0, 0, [], []⟩
def f2M (cen ne rate : Int) (x : AS) : AS := if occ rate x.s = true then (if 0 < ne then roadM (roll cen (x.draw 100).s) (roll ne ((x.draw 100).draw cen).s) (((x.draw 100).draw cen).draw ne) else x.draw 100) else x.draw 100
theorem AS.draw_s (x : AS) (n : Int) : (x.draw n).s = aft n x.s := rfl
theorem crashM_l (k : Nat) (x : AS) : (crashM k x).l.length = x.l.length + 1 := by
  unfold crashM
  split
  · show (x.l ++ [_]).length = _; simp
  · show ((x.draw 64).l ++ [_]).length = _; simp [AS.draw]
theorem f1M_l (cen rate : Int) (x : AS) : (f1M cen rate x).l.length ≤ x.l.length + 1 := by
  unfold f1M
  by_cases h : occ rate x.s = true
  · rw [if_pos h, crashM_l]; exact Nat.le_refl _
  · rw [if_neg h, AS.draw_l]; exact Nat.le_succ _
theorem gcells_dn {r : Nat} {c : CF} {m : RT} {di : Int} {sp : Bool} {dn : List Bool} {A : Option Addr} {n cp k : Nat} (hd : dn.length = 9) (hk : k < 9) (b : Bool) : (gcells r c m di sp dn A n cp).set (25 + k) (.bool b) = gcells r c m di sp (dn.set k b) A n cp := by
  obtain ⟨d0, d1, d2, d3, d4, d5, d6, d7, d8, rfl⟩ : ∃ a b c d e f g h i, dn = [a, b, c, d, e, f, g, h, i] := by
    match dn, hd with
    | [a, b, c, d, e, f, g, h, i], _ => exact ⟨a, b, c, d, e, f, g, h, i, rfl⟩
  obtain rfl | rfl | rfl | rfl | rfl | rfl | rfl | rfl | rfl : k = 0 ∨ k = 1 ∨ k = 2 ∨ k = 3 ∨ k = 4 ∨ k = 5 ∨ k = 6 ∨ k = 7 ∨ k = 8 := by omega
  all_goals rfl
theorem gcells_dnAt {r : Nat} {c : CF} {m : RT} {di : Int} {sp : Bool} {dn : List Bool} {A : Option Addr} {n cp k : Nat} (hd : dn.length = 9) (hk : k < 9) : (gcells r c m di sp dn A n cp).toArray[25 + k]? = some (.bool (dn.getD k false)) := by
  obtain ⟨d0, d1, d2, d3, d4, d5, d6, d7, d8, rfl⟩ : ∃ a b c d e f g h i, dn = [a, b, c, d, e, f, g, h, i] := by
    match dn, hd with
    | [a, b, c, d, e, f, g, h, i], _ => exact ⟨a, b, c, d, e, f, g, h, i, rfl⟩
  obtain rfl | rfl | rfl | rfl | rfl | rfl | rfl | rfl | rfl : k = 0 ∨ k = 1 ∨ k = 2 ∨ k = 3 ∨ k = 4 ∨ k = 5 ∨ k = 6 ∨ k = 7 ∨ k = 8 := by omega
  all_goals rfl
section
variable {B : Nat} {w w' : World} {g r : Nat} {c : CF} {m : RT} {x : AS} {A : Option Addr} {cp : Nat} {la : List AC}
theorem GI.dnAt (h : GI B w g r c m x A cp la) {k : Nat} (hk : k < 9) : w.cell? ⟨g, 25 + k, none⟩ = some (.bool (x.dn.getD k false)) :=
  (h.gm.blk.at_ (25 + k)).trans (gcells_dnAt h.gm.dl hk)
theorem GI.crashed (h : GI B w g r c m x A cp la) {k : Nat} (hk : k < 9) {b : Bool} (hb : (!x.dn.getD k false) = b) : GI B (w.setCell ⟨g, 25 + k, none⟩ (.bool b)) g r c m (x.crash k) A cp la := by
  subst hb
  exact ⟨h.gm.put (25 + k) (.bool _) (by simp [AS.crash, h.gm.dl]) (gcells_dn h.gm.dl hk _), h.val, h.bg, h.br, h.ba⟩
end
section
variable {B : Nat} {w : World} {g r : Nat} {c : CF} {m : RT} {x : AS} {A : Option Addr} {cp : Nat} {la : List AC}
set_option maxRecDepth 100000 in
set_option maxHeartbeats 8000000 in
theorem failures_any (h : GI B w g r c m x A cp la) (hw : B ≤ w.heap.size) (hl : x.l.length ≤ 99000) (hc1 : 1 ≤ c.cen) (hc2 : c.cen ≤ 9) (hne : (c.edg.length : Int) ≤ 9223372036854775807) : Calls Try.prog 50 #[.pointer (some ⟨g, 0, none⟩)] w (StepPost B w g r c m (f2M c.cen c.edg.length m.a5 (f1M c.cen m.a4 x))) := by
  have HI := hid h
  have HKB := hid (Keep.refl (B ≤ ·) w)
  have HBG := hid h.bg
  have HNE := hid hne
  clear h hne
  obtain ⟨q0, q1, q2, q3, q4, r0, r1, r2, r3, r4, r5, r6, qd, qs, ql, qf, qg⟩ := HI.out.gm.gc
  go_enter Try.func50, Try.ntmps50
  go_upto_if 15 with (
    go_at_call 62
    (with_reducible refine (occurs_any HI.out.gm _).mono ?_)
    rintro e u1 ⟨rfl, hg9, hk9⟩
    have HKB2 := hid (HKB.out.trans (HI.out.keepR hk9) (fun _ _ e => e))
    have HI2 := hid (HI.out.draw hg9 hk9)
    clear hg9 hk9 HI HKB
    have HI := HI2
    have HKB := HKB2
    clear HI2 HKB2
    clear q0 q1 q2 q3 q4 r0 r1 r2 r3 r4 r5 r6 qd qs ql qf qg
    obtain ⟨q0, q1, q2, q3, q4, r0, r1, r2, r3, r4, r5, r6, qd, qs, ql, qf, qg⟩ := HI.out.gm.gc
    try simp only [AS.draw_di, AS.add_di] at qd)
  go_cut [] from 15 (fun w' => Hid (GI.Ex B w' g r c m (f1M c.cen m.a4 x) ∧ Keep (B ≤ ·) w w'))
  case first =>
    cases hb : occ m.a4 x.s
    · have HBB := hid hb
      clear hb
      go_wp2_with fail
      go_meet
      exact hid ⟨by rw [f1M, HBB.out]; exact ⟨_, _, _, HI.out⟩, HKB.out⟩
    · have HBB := hid hb
      clear hb
      go_upto_region 3 with (
        go_at_call 12
        (with_reducible refine (intn_any _ r _ _ HI.out.gm.rng (by omega)).mono ?_)
        rintro e u2 ⟨rfl, hg9, hk9⟩
        have HKB2 := hid (HKB.out.trans (HI.out.keepR hk9) (fun _ _ e => e))
        have HI2 := hid (HI.out.draw hg9 hk9)
        clear hg9 hk9 HI HKB
        have HI := HI2
        have HKB := HKB2
        clear HI2 HKB2
        clear q0 q1 q2 q3 q4 r0 r1 r2 r3 r4 r5 r6 qd qs ql qf qg
        obtain ⟨q0, q1, q2, q3, q4, r0, r1, r2, r3, r4, r5, r6, qd, qs, ql, qf, qg⟩ := HI.out.gm.gc
        try simp only [AS.draw_di, AS.add_di] at qd
        obtain ⟨hn0, hn1⟩ := roll_in c.cen (x.draw 100).s hc1
        generalize hN : roll c.cen (x.draw 100).s = n at *
        have HN := hid hN
        clear hN)
      obtain ⟨k, rfl⟩ : ∃ k : Nat, n = k := ⟨n.toNat, by omega⟩
      have hk9 : k < 9 := by omega
      have hk0 : (0 : Int) ≤ (k : Int) := by omega
      have hk1 : (k : Int) < 9 := by omega
      have HF1 := hid (show f1M c.cen m.a4 x = crashM k ((x.draw 100).draw c.cen) by rw [f1M, HBB.out, HN.out]; rfl)
      clear HN hn0 hn1
      generalize hX : (x.draw 100).draw c.cen = x1 at *
      have hxl : x1.l.length ≤ 99000 := by rw [← hX]; exact hl
      clear hX
      have HD := hid (show ∀ b, x1.dn.getD k false = b → crashM k x1 = if b = true then (x1.add ⟨11, k, 0, 0, 0, 0, [], []⟩).crash k else ((x1.draw 64).add ⟨10, k, roll 64 x1.s, 0, 0, 0, [], []⟩).crash k from fun b hb => by rw [crashM, hb])
      have dnc := HI.out.dnAt hk9
      cases hb : x1.dn.getD k false
      · have HBV := hid hb
        rw [hb] at dnc
        have HD2 := hid (HD.out false hb)
        clear hb
        go_upto_region 6 with (first
          | (
            go_at_call 12
            (with_reducible refine (intn_any _ r _ _ HI.out.gm.rng (by omega)).mono ?_)
            rintro e u3 ⟨rfl, hg9, hk9⟩
            have HKB2 := hid (HKB.out.trans (HI.out.keepR hk9) (fun _ _ e => e))
            have HI2 := hid (HI.out.draw hg9 hk9)
            clear hg9 hk9 HI HKB
            have HI := HI2
            have HKB := HKB2
            clear HI2 HKB2
            clear q0 q1 q2 q3 q4 r0 r1 r2 r3 r4 r5 r6 qd qs ql qf qg
            obtain ⟨q0, q1, q2, q3, q4, r0, r1, r2, r3, r4, r5, r6, qd, qs, ql, qf, qg⟩ := HI.out.gm.gc
            try simp only [AS.draw_di, AS.add_di] at qd
            clear dnc)
          | (
            go_at_call 47
            have hadd := add_any HI.out.gm (plA 10 k (roll 64 x1.s) 0 0 0) (plA_ok _ _ _ _ _ _ _ _) (by rw [HI.out.len]; (try simp only [AS.add_l, AS.draw_l, List.length_append, List.length_singleton]); omega)
            rw [plA_cells] at hadd
            (with_reducible refine hadd.mono ?_)
            rintro e u4 ⟨rfl, ⟨A9, cp9, hg9, hq9⟩, hk9⟩
            have HI2 := hid (HI.out.added (Nat.le_trans hw HKB.out.size) hg9 hk9 hq9 (plA_val _ _ _ _ _ _))
            have HKB2 := hid (HKB.out.trans (HI.out.keepA hk9) (fun _ _ e => e))
            clear hg9 hq9 hk9 hadd HI HKB
            have HI := HI2
            have HKB := HKB2
            clear HI2 HKB2
            clear q0 q1 q2 q3 q4 r0 r1 r2 r3 r4 r5 r6 qd qs ql qf qg
            obtain ⟨q0, q1, q2, q3, q4, r0, r1, r2, r3, r4, r5, r6, qd, qs, ql, qf, qg⟩ := HI.out.gm.gc
            try simp only [AS.draw_di, AS.add_di] at qd))
        have dnd := (HI.out.dnAt hk9).trans (congrArg (fun b => some (Value.bool b)) (HBV.out : (AS.add (AS.draw x1 64) _).dn.getD k false = false))
        go_region
        all_goals
          have HIe := hid ((HI.out.crashed hk9 (b := true) (congrArg (fun b => !b) HBV.out)).same (Keep.refl _ _).drew)
          have HKe := hid ((HKB.out.trans (((Keep.refl (· = g) _).put (25 + k) (.bool true)).wide (fun i _ e => by subst e; exact HBG.out)) (fun _ _ e => e)).drew)
          go_wp2_with fail
          go_meet
          exact hid ⟨by rw [HF1.out, HD2.out]; exact ⟨_, _, _, HIe.out⟩, HKe.out⟩
      · have HBV := hid hb
        rw [hb] at dnc
        have HD2 := hid (HD.out true hb)
        clear hb
        go_upto_region 6 with (
          go_at_call 47
          have hadd := add_any HI.out.gm (plA 11 k 0 0 0 0) (plA_ok _ _ _ _ _ _ _ _) (by rw [HI.out.len]; (try simp only [AS.add_l, AS.draw_l, List.length_append, List.length_singleton]); omega)
          rw [plA_cells] at hadd
          (with_reducible refine hadd.mono ?_)
          rintro e u5 ⟨rfl, ⟨A9, cp9, hg9, hq9⟩, hk9⟩
          have HI2 := hid (HI.out.added (Nat.le_trans hw HKB.out.size) hg9 hk9 hq9 (plA_val _ _ _ _ _ _))
          have HKB2 := hid (HKB.out.trans (HI.out.keepA hk9) (fun _ _ e => e))
          clear hg9 hq9 hk9 hadd HI HKB
          have HI := HI2
          have HKB := HKB2
          clear HI2 HKB2
          clear q0 q1 q2 q3 q4 r0 r1 r2 r3 r4 r5 r6 qd qs ql qf qg
          obtain ⟨q0, q1, q2, q3, q4, r0, r1, r2, r3, r4, r5, r6, qd, qs, ql, qf, qg⟩ := HI.out.gm.gc
          try simp only [AS.draw_di, AS.add_di] at qd
          clear dnc)
        have dnd := (HI.out.dnAt hk9).trans (congrArg (fun b => some (Value.bool b)) (HBV.out : (AS.add x1 _).dn.getD k false = true))
        go_region
        all_goals
          have HIe := hid ((HI.out.crashed hk9 (b := false) (congrArg (fun b => !b) HBV.out)).same (Keep.refl _ _).drew)
          have HKe := hid ((HKB.out.trans (((Keep.refl (· = g) _).put (25 + k) (.bool false)).wide (fun i _ e => by subst e; exact HBG.out)) (fun _ _ e => e)).drew)
          go_wp2_with fail
          go_meet
          exact hid ⟨by rw [HF1.out, HD2.out]; exact ⟨_, _, _, HIe.out⟩, HKe.out⟩
  case rest =>
    obtain ⟨⟨A, cp, la, hI⟩, hKB⟩ := hcut.out
    have hl1 := f1M_l c.cen m.a4 x
    clear hcut HI HKB
    clear q0 q1 q2 q3 q4 r0 r1 r2 r3 r4 r5 r6 qd qs ql qf qg
    have HI := hid hI
    have HKB := hid hKB
    clear hI hKB
    generalize f1M c.cen m.a4 x = x1 at *
    obtain ⟨q0, q1, q2, q3, q4, r0, r1, r2, r3, r4, r5, r6, qd, qs, ql, qf, qg⟩ := HI.out.gm.gc
    have HDf := hid (show occ m.a5 x1.s = false → f2M c.cen c.edg.length m.a5 x1 = x1.draw 100 from fun hb => by rw [f2M, hb]; rfl)
    have HDn := hid (show occ m.a5 x1.s = true → ¬ 0 < (c.edg.length : Int) → f2M c.cen c.edg.length m.a5 x1 = x1.draw 100 from fun hb hn => by rw [f2M, hb, if_pos rfl, if_neg hn])
    have HDt := hid (show occ m.a5 x1.s = true → 0 < (c.edg.length : Int) → f2M c.cen c.edg.length m.a5 x1 = roadM (roll c.cen (x1.draw 100).s) (roll c.edg.length ((x1.draw 100).draw c.cen).s) (((x1.draw 100).draw c.cen).draw c.edg.length) from fun hb hn => by rw [f2M, hb, if_pos rfl, if_pos hn])
    cases hb : occ m.a5 x1.s
    · have HBB := hid (HDf.out hb)
      have HBQ := hid hb
      clear hb
      go_upto_region 8 with (
        go_at_call 62
        (with_reducible refine (occurs_any HI.out.gm _).mono ?_)
        rintro e v1 ⟨rfl, hg9, hk9⟩
        have HKB2 := hid (HKB.out.trans (HI.out.keepR hk9) (fun _ _ e => e))
        have HI2 := hid (HI.out.draw hg9 hk9)
        clear hg9 hk9 HI HKB
        have HI := HI2
        have HKB := HKB2
        clear HI2 HKB2
        clear q0 q1 q2 q3 q4 r0 r1 r2 r3 r4 r5 r6 qd qs ql qf qg
        obtain ⟨q0, q1, q2, q3, q4, r0, r1, r2, r3, r4, r5, r6, qd, qs, ql, qf, qg⟩ := HI.out.gm.gc
        try simp only [AS.draw_di, AS.add_di] at qd
        rw [HBQ.out])
      go_wp2_with fail
      go_end0
      exact ⟨rfl, by rw [HBB.out]; exact ⟨_, _, _, HI.out⟩, HKB.out⟩
    · have HBQ := hid hb
      by_cases hn : 0 < (c.edg.length : Int)
      rotate_left 1
      · have HBB := hid (HDn.out hb hn)
        clear hb
        go_upto_region 8 with (
          go_at_call 62
          (with_reducible refine (occurs_any HI.out.gm _).mono ?_)
          rintro e v1 ⟨rfl, hg9, hk9⟩
          have HKB2 := hid (HKB.out.trans (HI.out.keepR hk9) (fun _ _ e => e))
          have HI2 := hid (HI.out.draw hg9 hk9)
          clear hg9 hk9 HI HKB
          have HI := HI2
          have HKB := HKB2
          clear HI2 HKB2
          clear q0 q1 q2 q3 q4 r0 r1 r2 r3 r4 r5 r6 qd qs ql qf qg
          obtain ⟨q0, q1, q2, q3, q4, r0, r1, r2, r3, r4, r5, r6, qd, qs, ql, qf, qg⟩ := HI.out.gm.gc
          try simp only [AS.draw_di, AS.add_di] at qd
          rw [HBQ.out])
        go_wp2_with fail
        go_end0
        exact ⟨rfl, by rw [HBB.out]; exact ⟨_, _, _, HI.out⟩, HKB.out⟩
      · have HBB := hid (HDt.out hb hn)
        clear hb
        have hnq : 1 ≤ (c.edg.length : Int) := by omega
        have HNQ := hid hnq
        go_upto_region 8 with (
          go_at_call 62
          (with_reducible refine (occurs_any HI.out.gm _).mono ?_)
          rintro e v1 ⟨rfl, hg9, hk9⟩
          have HKB2 := hid (HKB.out.trans (HI.out.keepR hk9) (fun _ _ e => e))
          have HI2 := hid (HI.out.draw hg9 hk9)
          clear hg9 hk9 HI HKB
          have HI := HI2
          have HKB := HKB2
          clear HI2 HKB2
          clear q0 q1 q2 q3 q4 r0 r1 r2 r3 r4 r5 r6 qd qs ql qf qg
          obtain ⟨q0, q1, q2, q3, q4, r0, r1, r2, r3, r4, r5, r6, qd, qs, ql, qf, qg⟩ := HI.out.gm.gc
          try simp only [AS.draw_di, AS.add_di] at qd
          rw [HBQ.out])
        go_upto_region 9 with fail
        have HA := HI
        have HLT := hid (show r < v1.heap.size ∧ g < v1.heap.size from ⟨HI.out.gm.rng.blk.lt, qg⟩)
        have HB := hid (Blk.made v1 59 #[.int .i64 14, .int .i64 0, .int .i64 0, .int .i64 0, .int .i64 0, .int .i64 0, .slice none 0 0, .slice none 0 0])
        have HKc := hid ((Keep.refl (· = r) v1).alloc (.cells #[.int .i64 14, .int .i64 0, .int .i64 0, .int .i64 0, .int .i64 0, .int .i64 0, .slice none 0 0, .slice none 0 0] 59))
        have HGc := hid (HI.out.gm.rng.keep ((Keep.refl (fun _ => False) v1).alloc (.cells #[.int .i64 14, .int .i64 0, .int .i64 0, .int .i64 0, .int .i64 0, .int .i64 0, .slice none 0 0, .slice none 0 0] 59)) (fun f => f))
        clear q0 q1 q2 q3 q4 r0 r1 r2 r3 r4 r5 r6 qd qs ql qf qg
        generalize v1.alloc (.cells #[.int .i64 14, .int .i64 0, .int .i64 0, .int .i64 0, .int .i64 0, .int .i64 0, .slice none 0 0, .slice none 0 0] 59) = v2 at *
        have HI := hid (HA.out.draws HGc.out HKc.out)
        obtain ⟨q0, q1, q2, q3, q4, r0, r1, r2, r3, r4, r5, r6, qd, qs, ql, qf, qg⟩ := HI.out.gm.gc
        try simp only [AS.draw_di, AS.add_di] at qd
        generalize hX : x1.draw 100 = x2 at *
        have hxl : x2.l.length ≤ 99001 := by rw [← hX]; exact Nat.le_trans hl1 (by omega)
        clear hX
        go_upto_region 10 with (
          go_at_call 12
          (with_reducible refine (intn_any _ r _ c.cen HGc.out (by omega)).mono ?_)
          rintro e v3 ⟨rfl, hg9, hk9⟩
          have HKc2 := hid (HKc.out.trans hk9 (fun _ _ e => e))
          have HGc2 := hid hg9
          have HBb := hid (HB.out.keep hk9 (fun e => by have := HLT.out.1; omega))
          clear HB
          have HB := HBb
          clear HBb
          have HI2 := hid (HA.out.draws hg9 HKc2.out)
          clear hg9 hk9 HI HKc HGc
          have HI := HI2
          have HKc := HKc2
          have HGc := HGc2
          clear HI2 HKc2 HGc2
          clear q0 q1 q2 q3 q4 r0 r1 r2 r3 r4 r5 r6 qd qs ql qf qg
          obtain ⟨q0, q1, q2, q3, q4, r0, r1, r2, r3, r4, r5, r6, qd, qs, ql, qf, qg⟩ := HI.out.gm.gc
          try simp only [AS.draw_di, AS.add_di] at qd
          have c1 := HB.out.at_ 1
          have f1 := HB.out.free 1
          have l1 := HB.out.lt)
        generalize roll c.cen x2.s = who at *
        have HBn := hid (HB.out.put 1 (.int .i64 who))
        have HKn := hid (HKc.out.setCell (p := ⟨v1.heap.size, 1, none⟩) (fun hlt => absurd (show v1.heap.size < v1.heap.size from hlt) (by omega)) (.int .i64 who))
        have HGn := hid (HGc.out.keep ((Keep.refl (· = v1.heap.size) v3).put 1 (.int .i64 who)) (fun e => by have := HLT.out.1; omega))
        clear HB HKc HGc HI c1 f1 l1
        clear q0 q1 q2 q3 q4 r0 r1 r2 r3 r4 r5 r6 qd qs ql qf qg
        generalize v3.setCell ⟨v1.heap.size, 1, none⟩ (.int .i64 who) = v4 at *
        have HB := HBn
        have HKc := HKn
        have HGc := HGn
        clear HBn HKn HGn
        have HI := hid (HA.out.draws HGc.out HKc.out)
        obtain ⟨q0, q1, q2, q3, q4, r0, r1, r2, r3, r4, r5, r6, qd, qs, ql, qf, qg⟩ := HI.out.gm.gc
        try simp only [AS.draw_di, AS.add_di] at qd
        go_upto_region 11 with (
          go_at_call 12
          (with_reducible refine (intn_any _ r _ c.edg.length HGc.out HNE.out).mono ?_)
          rintro e v5 ⟨rfl, hg9, hk9⟩
          have HKc2 := hid (HKc.out.trans hk9 (fun _ _ e => e))
          have HGc2 := hid hg9
          have HBb := hid (HB.out.keep hk9 (fun e => by have := HLT.out.1; omega))
          clear HB
          have HB := HBb
          clear HBb
          have HI2 := hid (HA.out.draws hg9 HKc2.out)
          clear hg9 hk9 HI HKc HGc
          have HI := HI2
          have HKc := HKc2
          have HGc := HGc2
          clear HI2 HKc2 HGc2
          clear q0 q1 q2 q3 q4 r0 r1 r2 r3 r4 r5 r6 qd qs ql qf qg
          obtain ⟨q0, q1, q2, q3, q4, r0, r1, r2, r3, r4, r5, r6, qd, qs, ql, qf, qg⟩ := HI.out.gm.gc
          try simp only [AS.draw_di, AS.add_di] at qd
          have c1 := HB.out.at_ 3
          have f1 := HB.out.free 3
          have l1 := HB.out.lt)
        rw [AS.draw_s] at HBB
        generalize roll c.edg.length (aft c.cen x2.s) = call at *
        have HBn := hid (HB.out.put 3 (.int .i64 call))
        have HKn := hid (HKc.out.setCell (p := ⟨v1.heap.size, 3, none⟩) (fun hlt => absurd (show v1.heap.size < v1.heap.size from hlt) (by omega)) (.int .i64 call))
        have HGn := hid (HGc.out.keep ((Keep.refl (· = v1.heap.size) v5).put 3 (.int .i64 call)) (fun e => by have := HLT.out.1; omega))
        clear HB HKc HGc HI c1 f1 l1
        clear q0 q1 q2 q3 q4 r0 r1 r2 r3 r4 r5 r6 qd qs ql qf qg
        generalize v5.setCell ⟨v1.heap.size, 3, none⟩ (.int .i64 call) = v6 at *
        have HB := HBn
        have HKc := HKn
        have HGc := HGn
        clear HBn HKn HGn
        have HI := hid (HA.out.draws HGc.out HKc.out)
        obtain ⟨q0, q1, q2, q3, q4, r0, r1, r2, r3, r4, r5, r6, qd, qs, ql, qf, qg⟩ := HI.out.gm.gc
        try simp only [AS.draw_di, AS.add_di] at qd
        have HRt := hid (show chc 1 4 ((x2.draw c.cen).draw c.edg.length).s = true → roadM who call ((x2.draw c.cen).draw c.edg.length) = (((x2.draw c.cen).draw c.edg.length).draw 4).add ⟨14, who, 4611686018427387904, call, 0, 0, [], []⟩ from fun hb => by rw [roadM, if_pos hb])
        have HRf := hid (show chc 1 4 ((x2.draw c.cen).draw c.edg.length).s = false → roadM who call ((x2.draw c.cen).draw c.edg.length) = ((((x2.draw c.cen).draw c.edg.length).draw 4).draw 20).add ⟨14, who, 1 + roll 20 (((x2.draw c.cen).draw c.edg.length).draw 4).s, call, 0, 0, [], []⟩ from fun hb => by rw [roadM, if_neg (by simp [hb])])
        go_upto_if 86 with (
          go_at_call 14
          (with_reducible refine (chance_any _ r _ _ _ HGc.out (by omega)).mono ?_)
          rintro e v7 ⟨rfl, hg9, hk9⟩
          have HKc2 := hid (HKc.out.trans hk9 (fun _ _ e => e))
          have HGc2 := hid hg9
          have HBb := hid (HB.out.keep hk9 (fun e => by have := HLT.out.1; omega))
          clear HB
          have HB := HBb
          clear HBb
          have HI2 := hid (HA.out.draws hg9 HKc2.out)
          clear hg9 hk9 HI HKc HGc
          have HI := HI2
          have HKc := HKc2
          have HGc := HGc2
          clear HI2 HKc2 HGc2
          clear q0 q1 q2 q3 q4 r0 r1 r2 r3 r4 r5 r6 qd qs ql qf qg
          obtain ⟨q0, q1, q2, q3, q4, r0, r1, r2, r3, r4, r5, r6, qd, qs, ql, qf, qg⟩ := HI.out.gm.gc
          try simp only [AS.draw_di, AS.add_di] at qd)
        cases hb : chc 1 4 (aft c.edg.length (aft c.cen x2.s))
        · have HRR := hid (HRf.out hb)
          clear hb
          go_upto_region 14 with (
            go_at_call 12
            (with_reducible refine (intn_any _ r _ _ HGc.out (by omega)).mono ?_)
            rintro e v8 ⟨rfl, hg9, hk9⟩
            have HKc2 := hid (HKc.out.trans hk9 (fun _ _ e => e))
            have HGc2 := hid hg9
            have HBb := hid (HB.out.keep hk9 (fun e => by have := HLT.out.1; omega))
            clear HB
            have HB := HBb
            clear HBb
            have HI2 := hid (HA.out.draws hg9 HKc2.out)
            clear hg9 hk9 HI HKc HGc
            have HI := HI2
            have HKc := HKc2
            have HGc := HGc2
            clear HI2 HKc2 HGc2
            clear q0 q1 q2 q3 q4 r0 r1 r2 r3 r4 r5 r6 qd qs ql qf qg
            obtain ⟨q0, q1, q2, q3, q4, r0, r1, r2, r3, r4, r5, r6, qd, qs, ql, qf, qg⟩ := HI.out.gm.gc
            try simp only [AS.draw_di, AS.add_di] at qd
            have c1 := HB.out.at_ 2
            have f1 := HB.out.free 2
            have l1 := HB.out.lt
            obtain ⟨hz0, hz1⟩ := roll_in 20 (aft 4 (aft c.edg.length (aft c.cen x2.s))) (by omega))
          simp only [AS.draw_s] at HRR
          generalize roll 20 (aft 4 (aft c.edg.length (aft c.cen x2.s))) = nn at *
          have HBn := hid (HB.out.put 2 (.int .i64 (1 + nn)))
          have HKn := hid (HKc.out.setCell (p := ⟨v1.heap.size, 2, none⟩) (fun hlt => absurd (show v1.heap.size < v1.heap.size from hlt) (by omega)) (.int .i64 (1 + nn)))
          have HGn := hid (HGc.out.keep ((Keep.refl (· = v1.heap.size) v8).put 2 (.int .i64 (1 + nn))) (fun e => by have := HLT.out.1; omega))
          clear HB HKc HGc HI c1 f1 l1
          clear q0 q1 q2 q3 q4 r0 r1 r2 r3 r4 r5 r6 qd qs ql qf qg
          generalize v8.setCell ⟨v1.heap.size, 2, none⟩ (.int .i64 (1 + nn)) = v9 at *
          have HB := HBn
          have HKc := HKn
          have HGc := HGn
          clear HBn HKn HGn
          have HI := hid (HA.out.draws HGc.out HKc.out)
          obtain ⟨q0, q1, q2, q3, q4, r0, r1, r2, r3, r4, r5, r6, qd, qs, ql, qf, qg⟩ := HI.out.gm.gc
          try simp only [AS.draw_di, AS.add_di] at qd
          have HKB2 := hid (HKB.out.trans (HA.out.keepR HKc.out) (fun _ _ e => e))
          clear HKB
          have HKB := HKB2
          clear HKB2
          have hlt := HB.out.lt
          have e0 : v9.cell? ⟨v1.heap.size, 0, none⟩ = some (.int .i64 14) := (HB.out.at_ 0).trans rfl
          have e1 : v9.cell? ⟨v1.heap.size, 1, none⟩ = some (.int .i64 who) := (HB.out.at_ 1).trans rfl
          have e2 : v9.cell? ⟨v1.heap.size, 2, none⟩ = some (.int .i64 (1 + nn)) := (HB.out.at_ 2).trans rfl
          have e3 : v9.cell? ⟨v1.heap.size, 3, none⟩ = some (.int .i64 call) := (HB.out.at_ 3).trans rfl
          have e4 : v9.cell? ⟨v1.heap.size, 4, none⟩ = some (.int .i64 0) := (HB.out.at_ 4).trans rfl
          have e5 : v9.cell? ⟨v1.heap.size, 5, none⟩ = some (.int .i64 0) := (HB.out.at_ 5).trans rfl
          have e6 : v9.cell? ⟨v1.heap.size, 6, none⟩ = some (.slice none 0 0) := (HB.out.at_ 6).trans rfl
          have e7 : v9.cell? ⟨v1.heap.size, 7, none⟩ = some (.slice none 0 0) := (HB.out.at_ 7).trans rfl
          go_wp2_with (
            go_at_call 47
            have hadd := add_any HI.out.gm (plA 14 who (1 + nn) call 0 0) (plA_ok _ _ _ _ _ _ _ _) (by rw [HI.out.len]; (try simp only [AS.add_l, AS.draw_l, List.length_append, List.length_singleton]); omega)
            rw [plA_cells] at hadd
            (with_reducible refine hadd.mono ?_)
            rintro e v10 ⟨rfl, ⟨A9, cp9, hg9, hq9⟩, hk9⟩
            have HI2 := hid (HI.out.added (Nat.le_trans hw HKB.out.size) hg9 hk9 hq9 (plA_val _ _ _ _ _ _))
            have HKB2 := hid (HKB.out.trans (HI.out.keepA hk9) (fun _ _ e => e))
            clear hg9 hq9 hk9 hadd HI HKB
            have HI := HI2
            have HKB := HKB2
            clear HI2 HKB2
            clear q0 q1 q2 q3 q4 r0 r1 r2 r3 r4 r5 r6 qd qs ql qf qg
            obtain ⟨q0, q1, q2, q3, q4, r0, r1, r2, r3, r4, r5, r6, qd, qs, ql, qf, qg⟩ := HI.out.gm.gc
            try simp only [AS.draw_di, AS.add_di] at qd)
          go_end0
          exact ⟨rfl, by rw [HBB.out, HRR.out]; exact ⟨_, _, _, HI.out⟩, HKB.out⟩
        · have HRR := hid (HRt.out hb)
          clear hb
          have c1 := HB.out.at_ 2
          have f1 := HB.out.free 2
          have l1 := HB.out.lt
          go_upto_region 14 with fail
          have HBn := hid (HB.out.put 2 (.int .i64 4611686018427387904))
          have HKn := hid (HKc.out.setCell (p := ⟨v1.heap.size, 2, none⟩) (fun hlt => absurd (show v1.heap.size < v1.heap.size from hlt) (by omega)) (.int .i64 4611686018427387904))
          have HGn := hid (HGc.out.keep ((Keep.refl (· = v1.heap.size) v7).put 2 (.int .i64 4611686018427387904)) (fun e => by have := HLT.out.1; omega))
          clear HB HKc HGc HI c1 f1 l1
          clear q0 q1 q2 q3 q4 r0 r1 r2 r3 r4 r5 r6 qd qs ql qf qg
          generalize v7.setCell ⟨v1.heap.size, 2, none⟩ (.int .i64 4611686018427387904) = v9 at *
          have HB := HBn
          have HKc := HKn
          have HGc := HGn
          clear HBn HKn HGn
          have HI := hid (HA.out.draws HGc.out HKc.out)
          obtain ⟨q0, q1, q2, q3, q4, r0, r1, r2, r3, r4, r5, r6, qd, qs, ql, qf, qg⟩ := HI.out.gm.gc
          try simp only [AS.draw_di, AS.add_di] at qd
          have HKB2 := hid (HKB.out.trans (HA.out.keepR HKc.out) (fun _ _ e => e))
          clear HKB
          have HKB := HKB2
          clear HKB2
          have hlt := HB.out.lt
          have e0 : v9.cell? ⟨v1.heap.size, 0, none⟩ = some (.int .i64 14) := (HB.out.at_ 0).trans rfl
          have e1 : v9.cell? ⟨v1.heap.size, 1, none⟩ = some (.int .i64 who) := (HB.out.at_ 1).trans rfl
          have e2 : v9.cell? ⟨v1.heap.size, 2, none⟩ = some (.int .i64 (4611686018427387904)) := (HB.out.at_ 2).trans rfl
          have e3 : v9.cell? ⟨v1.heap.size, 3, none⟩ = some (.int .i64 call) := (HB.out.at_ 3).trans rfl
          have e4 : v9.cell? ⟨v1.heap.size, 4, none⟩ = some (.int .i64 0) := (HB.out.at_ 4).trans rfl
          have e5 : v9.cell? ⟨v1.heap.size, 5, none⟩ = some (.int .i64 0) := (HB.out.at_ 5).trans rfl
          have e6 : v9.cell? ⟨v1.heap.size, 6, none⟩ = some (.slice none 0 0) := (HB.out.at_ 6).trans rfl
          have e7 : v9.cell? ⟨v1.heap.size, 7, none⟩ = some (.slice none 0 0) := (HB.out.at_ 7).trans rfl
          go_wp2_with (
            go_at_call 47
            have hadd := add_any HI.out.gm (plA 14 who (4611686018427387904) call 0 0) (plA_ok _ _ _ _ _ _ _ _) (by rw [HI.out.len]; (try simp only [AS.add_l, AS.draw_l, List.length_append, List.length_singleton]); omega)
            rw [plA_cells] at hadd
            (with_reducible refine hadd.mono ?_)
            rintro e v10 ⟨rfl, ⟨A9, cp9, hg9, hq9⟩, hk9⟩
            have HI2 := hid (HI.out.added (Nat.le_trans hw HKB.out.size) hg9 hk9 hq9 (plA_val _ _ _ _ _ _))
            have HKB2 := hid (HKB.out.trans (HI.out.keepA hk9) (fun _ _ e => e))
            clear hg9 hq9 hk9 hadd HI HKB
            have HI := HI2
            have HKB := HKB2
            clear HI2 HKB2
            clear q0 q1 q2 q3 q4 r0 r1 r2 r3 r4 r5 r6 qd qs ql qf qg
            obtain ⟨q0, q1, q2, q3, q4, r0, r1, r2, r3, r4, r5, r6, qd, qs, ql, qf, qg⟩ := HI.out.gm.gc
            try simp only [AS.draw_di, AS.add_di] at qd)
          go_end0
          exact ⟨rfl, by rw [HBB.out, HRR.out]; exact ⟨_, _, _, HI.out⟩, HKB.out⟩
end
end Go.Proofs.Ytnejacmmbfeneaa

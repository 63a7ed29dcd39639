import Derived.Test.YtnejacmmbfeneaaGenD
namespace Go.Proofs.Ytnejacmmbfeneaa
open Go.RowKit Go.PlainAid

/-! ## The network -/
def delM (x : AS) : AS := (x.draw 8).add ⟨5, 0, roll 8 x.s, 0, 0, 0, [], []⟩
def iterM : Nat → AS → AS
  | 0, x => x
  | k + 1, x => delM (iterM k x)
def evM (kind rate : Int) (x : AS) : AS := if occ rate x.s = true then ((x.draw 100).draw 8).add ⟨kind, 0, roll 8 (x.draw 100).s, 0, 0, 0, [], []⟩ else x.draw 100
def AS.flip (x : AS) : AS := ⟨x.s, x.di, !x.sp, x.dn, x.l⟩
def grpM : Nat → AS → List Int × AS
  | 0, x => ([], x)
  | k + 1, x => ((grpM k x).1 ++ [roll 2 (grpM k x).2.s], (grpM k x).2.draw 2)
def splitM (p : Nat) (rate : Int) (x : AS) : AS := if occ rate x.s = true then (if x.sp = true then ((x.draw 100).add ⟨9, 0, 0, 0, 0, 0, [], []⟩).flip else ((grpM p (x.draw 100)).2.add ⟨8, 0, 0, 0, 0, 0, [], (grpM p (x.draw 100)).1⟩).flip) else x.draw 100
def netM (p : Nat) (m : RT) (x : AS) : AS := splitM p m.a3 (evM 7 m.a2 (evM 6 m.a1 (iterM 3 x)))
theorem EInG : Elem Try.prog 23 3 1 8 (.int .i64 0) := ⟨Try.underlying23, by kernel_rfl, rfl, by decide⟩
theorem made_zero (n : Nat) : madeCells (Value.cells (.int .i64 0)) (n * 1) = (icellsC (List.replicate n 0)).toArray := by
  apply Array.ext
  · simp [size_madeCells, icellsC]
  · intro i h1 h2
    simp [madeCells, icellsC, Value.cells, Nat.mod_one]
theorem grpM_len (x : AS) : ∀ k, (grpM k x).1.length = k
  | 0 => rfl
  | k + 1 => by rw [grpM, List.length_append, grpM_len x k]; rfl
theorem grp_put {L : List Int} {k p : Nat} (hL : L.length = k) (hk : k < p) (v : Int) : (icellsC (L ++ List.replicate (p - k) 0)).toArray.setIfInBounds k (.int .i64 v) = (icellsC ((L ++ [v]) ++ List.replicate (p - (k + 1)) 0)).toArray := by
  rw [List.setIfInBounds_toArray]
  congr 1
  have e : p - k = (p - (k + 1)) + 1 := by omega
  rw [e, List.replicate_succ]
  simp only [icellsC, List.map_append, List.map_cons, List.map_nil]
  rw [List.set_append_right _ _ (by simp; omega)]
  simp [hL]
theorem grp_at {L : List Int} {k p : Nat} (hL : L.length = k) (hk : k < p) : (icellsC (L ++ List.replicate (p - k) 0)).toArray[k]? = some (.int .i64 0) := by
  have e : p - k = (p - (k + 1)) + 1 := by omega
  rw [e, List.replicate_succ]
  simp [icellsC, hL]
theorem grpM_rest (x : AS) : ∀ k, (grpM k x).2 = ⟨(grpM k x).2.s, x.di, x.sp, x.dn, x.l⟩
  | 0 => rfl
  | k + 1 => by
    have h := grpM_rest x k
    rw [grpM]
    simp only [AS.draw]
    rw [h]
def grpA (b : Nat) (l : List Int) : AC := ⟨8, 0, 0, 0, 0, 0, none, 0, [], some ⟨b, 0, none⟩, l.length, l⟩
theorem grpA_cells (b : Nat) (l : List Int) : (grpA b l).cells.toArray = #[.int .i64 8, .int .i64 0, .int .i64 0, .int .i64 0, .int .i64 0, .int .i64 0, .slice none 0 0, .slice (some ⟨b, 0, none⟩) l.length l.length] := rfl
theorem grpA_val (b : Nat) (l : List Int) : (grpA b l).val = ⟨8, 0, 0, 0, 0, 0, [], l⟩ := rfl
theorem grpA_ok {W : World} {Av : Nat → Prop} {b : Nat} {l : List Int} (hb : Blk W b 3 (icellsC l).toArray) (h1 : ¬ Av b) (hl : l.length ≤ 1000) : AcK W Av (grpA b l) := by
  refine ⟨Sl.nil _ _ _ _, fun x hx => by simp [grpA] at hx, ?_, ?_, ?_⟩
  · have := Sl.of_blk (n := l.length) (size := 1) (Av := Av) hb (by simp [icellsC]) h1
    simpa [grpA] using this
  · simp only [grpA, List.length_nil]; omega
  · simp only [grpA]; omega
theorem iterM_l (x : AS) : ∀ k, (iterM k x).l.length = x.l.length + k
  | 0 => rfl
  | k + 1 => by rw [iterM, delM, AS.add_l, AS.draw_l, List.length_append, iterM_l x k]; rfl
theorem iterM_di (x : AS) : ∀ k, (iterM k x).di = x.di
  | 0 => rfl
  | k + 1 => by rw [iterM, delM, AS.add_di, AS.draw_di, iterM_di x k]
theorem evM_l (kind rate : Int) (x : AS) : (evM kind rate x).l.length ≤ x.l.length + 1 := by
  unfold evM
  by_cases h : occ rate x.s = true
  · rw [if_pos h, AS.add_l, AS.draw_l, AS.draw_l, List.length_append]; exact Nat.le_refl _
  · rw [if_neg h, AS.draw_l]; exact Nat.le_succ _
section
variable {B : Nat} {w w' : World} {g r : Nat} {c : CF} {m : RT} {x : AS} {A : Option Addr} {cp : Nat} {la : List AC}
theorem GI.flipped (h : GI B w g r c m x A cp la) : GI B (w.setCell ⟨g, 24, none⟩ (.bool (!x.sp))) g r c m x.flip A cp la :=
  ⟨h.gm.put 24 (.bool (!x.sp)) h.gm.dl rfl, h.val, h.bg, h.br, h.ba⟩
/-- the configuration's other cells -/
structure GC2 (w : World) (g : Nat) (c : CF) : Prop where
  c4 : w.cell? ⟨g, 5, none⟩ = some (.slice c.P c.pla.length c.cP)
  c5 : w.cell? ⟨g, 6, none⟩ = some (.int .i64 c.h0)
  c6 : w.cell? ⟨g, 7, none⟩ = some (.int .i64 c.h1)
  c7 : w.cell? ⟨g, 8, none⟩ = some (.int .i64 c.h2)
  c8 : w.cell? ⟨g, 9, none⟩ = some (.int .i64 c.h3)
  c9 : w.cell? ⟨g, 10, none⟩ = some (.int .i64 c.h4)
  c10 : w.cell? ⟨g, 11, none⟩ = some (.int .i64 c.h5)
  c11 : w.cell? ⟨g, 12, none⟩ = some (.int .i64 c.h6)
  c12 : w.cell? ⟨g, 13, none⟩ = some (.int .i64 c.h7)
  c13 : w.cell? ⟨g, 14, none⟩ = some (.int .i64 c.h8)
  c14 : w.cell? ⟨g, 15, none⟩ = some (.int .i64 c.h9)
theorem GI.gc2 (h : GI B w g r c m x A cp la) : GC2 w g c := by
  have e := fun i => h.gm.blk.at_ i
  exact ⟨e 5, e 6, e 7, e 8, e 9, e 10, e 11, e 12, e 13, e 14, e 15⟩
end
section
variable {B : Nat} {w : World} {g r : Nat} {c : CF} {m : RT} {x : AS} {A : Option Addr} {cp : Nat} {la : List AC}
set_option maxRecDepth 100000 in
set_option maxHeartbeats 8000000 in
theorem network_any (h : GI B w g r c m x A cp la) (hw : B ≤ w.heap.size) (hl : x.l.length ≤ 99000) (hc1 : 1 ≤ c.cen) (hc2 : c.cen ≤ 9) (hu : (c.uni.length : Int) ≤ 256) : Calls Try.prog 49 #[.pointer (some ⟨g, 0, none⟩)] w (StepPost B w g r c m (netM (placesN c).toNat m x)) := by
  have HI := hid h
  have HKB := hid (Keep.refl (B ≤ ·) w)
  have HBG := hid h.bg
  have HXL := hid (iterM_l x)
  clear h
  obtain ⟨q0, q1, q2, q3, q4, r0, r1, r2, r3, r4, r5, r6, qd, qs, ql, qf, qg⟩ := HI.out.gm.gc
  go_enter Try.func49, Try.ntmps49
  go_wp2_with fail
  go_loopw [9] (fun i wr => ∃ k : Nat, k ≤ 3 ∧ i = .int .i64 k ∧ Hid (GI.Ex B wr g r c m (iterM k x) ∧ Keep (B ≤ ·) w wr)) (fun i _ => 3 - (RowKit.intOf i).toNat)
  case atStart => exact ⟨0, by omega, rfl, hid ⟨⟨_, _, _, HI.out⟩, HKB.out⟩⟩
  case round =>
    obtain ⟨k, hk, rfl, HR⟩ := hrel
    obtain ⟨⟨A, cp, la, hI⟩, hKB⟩ := HR.out
    clear HI HKB HR
    clear q0 q1 q2 q3 q4 r0 r1 r2 r3 r4 r5 r6 qd qs ql qf qg
    have HI := hid hI
    have HKB := hid hKB
    clear hI hKB
    have hxl : (iterM k x).l.length ≤ 99003 := by rw [HXL.out]; omega
    by_cases hlt : k < 3
    · have hk1 : (k : Int) < 3 := by omega
      have HIT := hid (show iterM (k + 1) x = ((iterM k x).draw 8).add ⟨5, 0, roll 8 (iterM k x).s, 0, 0, 0, [], []⟩ from rfl)
      generalize iterM k x = xk at *
      obtain ⟨q0, q1, q2, q3, q4, r0, r1, r2, r3, r4, r5, r6, qd, qs, ql, qf, qg⟩ := HI.out.gm.gc
      go_wp2_with (first
        | (
          go_at_call 12
          (with_reducible refine (intn_any _ r _ _ HI.out.gm.rng (by omega)).mono ?_)
          rintro e u2 ⟨rfl, hg9, hk9⟩
          have HKB2 := hid (HKB.out.trans (HI.out.keepR hk9) (fun _ _ e => e))
          have HI2 := hid (HI.out.draw hg9 hk9)
          clear hg9 hk9 HI HKB
          have HI := HI2
          have HKB := HKB2
          clear HI2 HKB2
          clear q0 q1 q2 q3 q4 r0 r1 r2 r3 r4 r5 r6 qd qs ql qf qg
          obtain ⟨q0, q1, q2, q3, q4, r0, r1, r2, r3, r4, r5, r6, qd, qs, ql, qf, qg⟩ := HI.out.gm.gc
          try simp only [AS.draw_di] at qd)
        | (
          go_at_call 47
          have hadd := add_any HI.out.gm (plA 5 0 (roll 8 xk.s) 0 0 0) (plA_ok _ _ _ _ _ _ _ _) (by rw [HI.out.len]; simp only [AS.draw_l]; omega)
          rw [plA_cells] at hadd
          (with_reducible refine hadd.mono ?_)
          rintro e u3 ⟨rfl, ⟨A9, cp9, hg9, hq9⟩, hk9⟩
          have HI2 := hid (HI.out.added (Nat.le_trans hw HKB.out.size) hg9 hk9 hq9 (plA_val _ _ _ _ _ _))
          have HKB2 := hid (HKB.out.trans (HI.out.keepA hk9) (fun _ _ e => e))
          clear hg9 hq9 hk9 hadd HI HKB
          have HI := HI2
          have HKB := HKB2
          clear HI2 HKB2
          clear q0 q1 q2 q3 q4 r0 r1 r2 r3 r4 r5 r6 qd qs ql qf qg
          obtain ⟨q0, q1, q2, q3, q4, r0, r1, r2, r3, r4, r5, r6, qd, qs, ql, qf, qg⟩ := HI.out.gm.gc
          try simp only [AS.draw_di, AS.add_di] at qd))
      go_roundw
      case rel => exact ⟨k + 1, by omega, by go_num, hid ⟨by rw [HIT.out]; exact ⟨_, _, _, HI.out⟩, HKB.out⟩⟩
      case measure => simp [RowKit.intOf]; omega
    · obtain rfl : 3 = k := by omega
      have HNM := hid (show netM (placesN c).toNat m x = splitM (placesN c).toNat m.a3 (evM 7 m.a2 (evM 6 m.a1 (iterM 3 x))) from rfl)
      generalize iterM 3 x = x1 at *
      obtain ⟨q0, q1, q2, q3, q4, r0, r1, r2, r3, r4, r5, r6, qd, qs, ql, qf, qg⟩ := HI.out.gm.gc
      go_upto_if 23 with (
        go_at_call 62
        (with_reducible refine (occurs_any HI.out.gm _).mono ?_)
        rintro e v23a ⟨rfl, hg9, hk9⟩
        have HKB2 := hid (HKB.out.trans (HI.out.keepR hk9) (fun _ _ e => e))
        have HI2 := hid (HI.out.draw hg9 hk9)
        clear hg9 hk9 HI HKB
        have HI := HI2
        have HKB := HKB2
        clear HI2 HKB2
        clear q0 q1 q2 q3 q4 r0 r1 r2 r3 r4 r5 r6 qd qs ql qf qg
        obtain ⟨q0, q1, q2, q3, q4, r0, r1, r2, r3, r4, r5, r6, qd, qs, ql, qf, qg⟩ := HI.out.gm.gc
        try simp only [AS.draw_di] at qd)
      go_cut [] from 23 (fun w' => Hid (GI.Ex B w' g r c m (evM 6 m.a1 x1) ∧ Keep (B ≤ ·) w w'))
      case first =>
        cases hb : occ m.a1 x1.s
        · have HBB := hid hb
          clear hb
          go_wp2_with fail
          go_meet
          exact hid ⟨by rw [evM, HBB.out]; exact ⟨_, _, _, HI.out⟩, HKB.out⟩
        · have HBB := hid hb
          clear hb
          go_wp2_with (first
            | (
              go_at_call 12
              (with_reducible refine (intn_any _ r _ _ HI.out.gm.rng (by omega)).mono ?_)
              rintro e v23b ⟨rfl, hg9, hk9⟩
              have HKB2 := hid (HKB.out.trans (HI.out.keepR hk9) (fun _ _ e => e))
              have HI2 := hid (HI.out.draw hg9 hk9)
              clear hg9 hk9 HI HKB
              have HI := HI2
              have HKB := HKB2
              clear HI2 HKB2
              clear q0 q1 q2 q3 q4 r0 r1 r2 r3 r4 r5 r6 qd qs ql qf qg
              obtain ⟨q0, q1, q2, q3, q4, r0, r1, r2, r3, r4, r5, r6, qd, qs, ql, qf, qg⟩ := HI.out.gm.gc
              try simp only [AS.draw_di] at qd)
            | (
              go_at_call 47
              have hadd := add_any HI.out.gm (plA 6 0 (roll 8 (x1.draw 100).s) 0 0 0) (plA_ok _ _ _ _ _ _ _ _) (by rw [HI.out.len]; simp only [AS.draw_l]; omega)
              rw [plA_cells] at hadd
              (with_reducible refine hadd.mono ?_)
              rintro e v23c ⟨rfl, ⟨A9, cp9, hg9, hq9⟩, hk9⟩
              have HI2 := hid (HI.out.added (Nat.le_trans hw HKB.out.size) hg9 hk9 hq9 (plA_val _ _ _ _ _ _))
              have HKB2 := hid (HKB.out.trans (HI.out.keepA hk9) (fun _ _ e => e))
              clear hg9 hq9 hk9 hadd HI HKB
              have HI := HI2
              have HKB := HKB2
              clear HI2 HKB2
              clear q0 q1 q2 q3 q4 r0 r1 r2 r3 r4 r5 r6 qd qs ql qf qg
              obtain ⟨q0, q1, q2, q3, q4, r0, r1, r2, r3, r4, r5, r6, qd, qs, ql, qf, qg⟩ := HI.out.gm.gc
              try simp only [AS.draw_di, AS.add_di] at qd))
          go_meet
          exact hid ⟨by rw [evM, HBB.out]; exact ⟨_, _, _, HI.out⟩, HKB.out⟩
      case rest =>
        obtain ⟨⟨A, cp, la, hI⟩, hKB⟩ := hcut.out
        have he := evM_l 6 m.a1 x1
        clear hcut HI HKB
        clear q0 q1 q2 q3 q4 r0 r1 r2 r3 r4 r5 r6 qd qs ql qf qg
        have HI := hid hI
        have HKB := hid hKB
        clear hI hKB
        generalize evM 6 m.a1 x1 = x2 at *
        obtain ⟨q0, q1, q2, q3, q4, r0, r1, r2, r3, r4, r5, r6, qd, qs, ql, qf, qg⟩ := HI.out.gm.gc
        go_upto_if 35 with (
          go_at_call 62
          (with_reducible refine (occurs_any HI.out.gm _).mono ?_)
          rintro e v35a ⟨rfl, hg9, hk9⟩
          have HKB2 := hid (HKB.out.trans (HI.out.keepR hk9) (fun _ _ e => e))
          have HI2 := hid (HI.out.draw hg9 hk9)
          clear hg9 hk9 HI HKB
          have HI := HI2
          have HKB := HKB2
          clear HI2 HKB2
          clear q0 q1 q2 q3 q4 r0 r1 r2 r3 r4 r5 r6 qd qs ql qf qg
          obtain ⟨q0, q1, q2, q3, q4, r0, r1, r2, r3, r4, r5, r6, qd, qs, ql, qf, qg⟩ := HI.out.gm.gc
          try simp only [AS.draw_di] at qd)
        go_cut [] from 35 (fun w' => Hid (GI.Ex B w' g r c m (evM 7 m.a2 x2) ∧ Keep (B ≤ ·) w w'))
        case first =>
          cases hb : occ m.a2 x2.s
          · have HBB := hid hb
            clear hb
            go_wp2_with fail
            go_meet
            exact hid ⟨by rw [evM, HBB.out]; exact ⟨_, _, _, HI.out⟩, HKB.out⟩
          · have HBB := hid hb
            clear hb
            go_wp2_with (first
              | (
                go_at_call 12
                (with_reducible refine (intn_any _ r _ _ HI.out.gm.rng (by omega)).mono ?_)
                rintro e v35b ⟨rfl, hg9, hk9⟩
                have HKB2 := hid (HKB.out.trans (HI.out.keepR hk9) (fun _ _ e => e))
                have HI2 := hid (HI.out.draw hg9 hk9)
                clear hg9 hk9 HI HKB
                have HI := HI2
                have HKB := HKB2
                clear HI2 HKB2
                clear q0 q1 q2 q3 q4 r0 r1 r2 r3 r4 r5 r6 qd qs ql qf qg
                obtain ⟨q0, q1, q2, q3, q4, r0, r1, r2, r3, r4, r5, r6, qd, qs, ql, qf, qg⟩ := HI.out.gm.gc
                try simp only [AS.draw_di] at qd)
              | (
                go_at_call 47
                have hadd := add_any HI.out.gm (plA 7 0 (roll 8 (x2.draw 100).s) 0 0 0) (plA_ok _ _ _ _ _ _ _ _) (by rw [HI.out.len]; simp only [AS.draw_l]; omega)
                rw [plA_cells] at hadd
                (with_reducible refine hadd.mono ?_)
                rintro e v35c ⟨rfl, ⟨A9, cp9, hg9, hq9⟩, hk9⟩
                have HI2 := hid (HI.out.added (Nat.le_trans hw HKB.out.size) hg9 hk9 hq9 (plA_val _ _ _ _ _ _))
                have HKB2 := hid (HKB.out.trans (HI.out.keepA hk9) (fun _ _ e => e))
                clear hg9 hq9 hk9 hadd HI HKB
                have HI := HI2
                have HKB := HKB2
                clear HI2 HKB2
                clear q0 q1 q2 q3 q4 r0 r1 r2 r3 r4 r5 r6 qd qs ql qf qg
                obtain ⟨q0, q1, q2, q3, q4, r0, r1, r2, r3, r4, r5, r6, qd, qs, ql, qf, qg⟩ := HI.out.gm.gc
                try simp only [AS.draw_di, AS.add_di] at qd))
            go_meet
            exact hid ⟨by rw [evM, HBB.out]; exact ⟨_, _, _, HI.out⟩, HKB.out⟩
        case rest =>
          obtain ⟨⟨A, cp, la, hI⟩, hKB⟩ := hcut.out
          have he := evM_l 7 m.a2 x2
          clear hcut HI HKB
          clear q0 q1 q2 q3 q4 r0 r1 r2 r3 r4 r5 r6 qd qs ql qf qg
          have HI := hid hI
          have HKB := hid hKB
          clear hI hKB
          generalize evM 7 m.a2 x2 = x3 at *
          obtain ⟨q0, q1, q2, q3, q4, r0, r1, r2, r3, r4, r5, r6, qd, qs, ql, qf, qg⟩ := HI.out.gm.gc
          have HSP := hid (show ∀ b, occ m.a3 x3.s = b → splitM (placesN c).toNat m.a3 x3 = if b = true then (if x3.sp = true then ((x3.draw 100).add ⟨9, 0, 0, 0, 0, 0, [], []⟩).flip else ((grpM (placesN c).toNat (x3.draw 100)).2.add ⟨8, 0, 0, 0, 0, 0, [], (grpM (placesN c).toNat (x3.draw 100)).1⟩).flip) else x3.draw 100 from fun b hb => by rw [splitM, hb])
          have hx3 : x3.l.length ≤ 99005 := by omega
          go_upto_if 48 with (
            go_at_call 62
            (with_reducible refine (occurs_any HI.out.gm _).mono ?_)
            rintro e y1 ⟨rfl, hg9, hk9⟩
            have HKB2 := hid (HKB.out.trans (HI.out.keepR hk9) (fun _ _ e => e))
            have HI2 := hid (HI.out.draw hg9 hk9)
            clear hg9 hk9 HI HKB
            have HI := HI2
            have HKB := HKB2
            clear HI2 HKB2
            clear q0 q1 q2 q3 q4 r0 r1 r2 r3 r4 r5 r6 qd qs ql qf qg
            obtain ⟨q0, q1, q2, q3, q4, r0, r1, r2, r3, r4, r5, r6, qd, qs, ql, qf, qg⟩ := HI.out.gm.gc
            try simp only [AS.draw_di] at qd)
          cases hb : occ m.a3 x3.s
          · have HS := hid (HSP.out false hb)
            clear hb
            go_wp2_with fail
            first
              | go_end0
              | refine bodyPost_ret (v := .tuple #[]) (by simp [results, Try.results49, go_sem]) rfl ?_
            exact ⟨rfl, by rw [HNM.out, HS.out]; exact ⟨_, _, _, HI.out⟩, HKB.out⟩
          · have HS := hid (HSP.out true hb)
            clear hb
            cases hsp : x3.sp
            · have hsq : (x3.draw 100).sp = false := hsp
              rw [hsq] at qs
              have HSW := hid hsp
              have HSV := hid hsq
              clear hsp hsq
              have HEP := hid (fun W => endpoints_any W c hc1 hc2 hu)
              have hpb : 1 ≤ placesN c ∧ placesN c ≤ 266 := by simp only [placesN]; omega
              obtain ⟨p, hp⟩ : ∃ p : Nat, placesN c = p := ⟨(placesN c).toNat, by omega⟩
              simp only [hp, Int.toNat_natCast] at HEP HS HNM
              simp only [CF.cells] at HEP
              have hp1 : 1 ≤ p := by omega
              have hp2 : p ≤ 266 := by omega
              have HPP := hid (show (placesN c).toNat = p by omega)
              clear hp hpb
              have hmk := fun W => EInG.make .i64 .i64 (p : Int) (p : Int) (by omega) (by omega) (by omega) (by omega) W
              simp only [Int.toNat_natCast, made_zero] at hmk
              obtain ⟨e4, e5, e6, e7, e8, e9, e10, e11, e12, e13, e14⟩ := HI.out.gc2
              go_wp2_with fail
              (with_reducible refine (HEP.out _).mono ?_)
              rintro e we ⟨rfl, hse⟩
              have HI2 := hid (HI.out.same hse)
              have HKB2 := hid (HKB.out.trans (hse.wide (fun _ _ f => f.elim)) (fun _ _ e => e))
              clear hse HI HKB e4 e5 e6 e7 e8 e9 e10 e11 e12 e13 e14
              have HI := HI2
              have HKB := HKB2
              clear HI2 HKB2
              clear q0 q1 q2 q3 q4 r0 r1 r2 r3 r4 r5 r6 qd qs ql qf qg
              obtain ⟨q0, q1, q2, q3, q4, r0, r1, r2, r3, r4, r5, r6, qd, qs, ql, qf, qg⟩ := HI.out.gm.gc
              have HA := HI
              have HGc := hid HI.out.gm.rng
              have hx4 : (x3.draw 100).l.length ≤ 99005 := hx3
              generalize hX : x3.draw 100 = x4 at *
              clear hX
              go_upto_region 13 with fail
              have HBK := hid (Blk.made we 3 (icellsC (List.replicate p 0)).toArray)
              have HKc := hid ((Keep.refl (· = r) we).alloc (.cells (icellsC (List.replicate p 0)).toArray 3))
              have HGd := hid (HGc.out.keep ((Keep.refl (fun _ => False) we).alloc (.cells (icellsC (List.replicate p 0)).toArray 3)) (fun f => f))
              have HLT := hid (show r < we.heap.size ∧ g < we.heap.size from ⟨HI.out.gm.rng.blk.lt, qg⟩)
              have HFAR := hid (fun q (h : we.heap.size ≤ q) => HA.out.far h)
              clear hmk HI HGc
              generalize we.alloc (.cells (icellsC (List.replicate p 0)).toArray 3) = wm at *
              clear q0 q1 q2 q3 q4 r0 r1 r2 r3 r4 r5 r6 qd qs ql qf qg
              go_wp2_with fail
              go_loopw [64] (fun i wr => ∃ k : Nat, k ≤ p ∧ i = .int .i64 k ∧ Hid (Keep (· = r) we wr ∧ Gn wr 63 r (grpM k x4).2.s ∧ Blk wr we.heap.size 3 (icellsC ((grpM k x4).1 ++ List.replicate (p - k) 0)).toArray)) (fun i _ => p - (RowKit.intOf i).toNat)
              case atStart => exact ⟨0, by omega, rfl, hid ⟨HKc.out, HGd.out, by simpa [grpM] using HBK.out⟩⟩
              case round =>
                obtain ⟨k, hk, rfl, HR⟩ := hrel
                obtain ⟨hk5, hg5, hb5⟩ := HR.out
                have HGK := hid hg5
                have HKK := hid hk5
                have HBB := hid hb5
                clear hk5 hg5 hb5 HR HKc HGd HBK
                by_cases hlt : k < p
                · have hk1 : (k : Int) < (p : Int) := by omega
                  have hk0 : (0 : Int) ≤ (k : Int) := by omega
                  have HLN := hid (grpM_len x4 k)
                  have HST := hid (show (grpM (k + 1) x4).1 = (grpM k x4).1 ++ [roll 2 (grpM k x4).2.s] ∧ (grpM (k + 1) x4).2.s = aft 2 (grpM k x4).2.s from ⟨rfl, rfl⟩)
                  generalize (grpM k x4).1 = L at *
                  generalize (grpM k x4).2.s = sk at *
                  go_wp2_with (
                    go_at_call 12
                    (with_reducible refine (intn_any _ r _ _ HGK.out (by omega)).mono ?_)
                    rintro e v9 ⟨rfl, hg9, hk9⟩
                    have HB9 := hid (HBB.out.keep hk9 (fun e => by have := HLT.out.1; omega))
                    have HK9 := hid (HKK.out.trans hk9 (fun _ _ e => e))
                    have HG9 := hid hg9
                    have c9 := (HB9.out.at_ k).trans (grp_at HLN.out hlt)
                    have f9 := HB9.out.free k
                    have l9 := HB9.out.lt
                    clear hg9 hk9)
                  go_roundw
                  case rel => exact ⟨k + 1, by omega, by go_num, hid ⟨HK9.out.setCell (fun h => absurd (show we.heap.size < we.heap.size from h) (by omega)) _, by rw [HST.out.2]; exact HG9.out.keep ((Keep.refl (· = we.heap.size) _).put k _) (fun e => by have := HLT.out.1; omega), by rw [HST.out.1, ← grp_put HLN.out hlt]; exact HB9.out.put k _⟩⟩
                  case measure => simp [RowKit.intOf]; omega
                · obtain rfl : p = k := by omega
                  have hbp : Blk wr we.heap.size 3 (icellsC (grpM p x4).1).toArray := by have := HBB.out; simpa using this
                  have HI := hid (HA.out.draws HGK.out HKK.out)
                  have HKF := hid (HKB.out.trans (HA.out.keepR HKK.out) (fun _ _ e => e))
                  have hgr := grpM_rest x4 p
                  have hll : la.length ≤ 99006 := by rw [HA.out.len]; omega
                  have hadd := add_any HI.out.gm (grpA we.heap.size (grpM p x4).1) (grpA_ok hbp (HFAR.out _ (Nat.le_refl _)) (by rw [grpM_len]; omega)) (by omega)
                  rw [grpA_cells, grpM_len] at hadd
                  have HADD := hid hadd
                  have HGR := hid hgr
                  clear hadd hbp hgr
                  obtain ⟨q0, q1, q2, q3, q4, r0, r1, r2, r3, r4, r5, r6, qd, qs, ql, qf, qg⟩ := HI.out.gm.gc
                  have hwr : B ≤ wr.heap.size := Nat.le_trans hw HKF.out.size
                  go_upto_region 19 with (
                    go_at_call 47
                    (with_reducible refine HADD.out.mono ?_)
                    rintro e w9 ⟨rfl, ⟨A9, cp9, hg9, hq9⟩, hk9⟩
                    have HI2 := hid (HI.out.added hwr hg9 hk9 hq9 (grpA_val we.heap.size (grpM p x4).1))
                    have HKB2 := hid (HKF.out.trans (HI.out.keepA hk9) (fun _ _ e => e))
                    clear hg9 hq9 hk9 HI HKB
                    have HI := HI2
                    have HKB := HKB2
                    clear HI2 HKB2
                    clear q0 q1 q2 q3 q4 r0 r1 r2 r3 r4 r5 r6 qd qs ql qf qg
                    obtain ⟨q0, q1, q2, q3, q4, r0, r1, r2, r3, r4, r5, r6, qd, qs, ql, qf, qg⟩ := HI.out.gm.gc
                    try simp only [AS.add_di] at qd)
                  have HIe := hid HI.out.flipped
                  have HKe := hid (HKB.out.trans (((Keep.refl (· = g) _).put 24 (.bool (!x4.sp))).wide (fun i _ e => by subst e; exact HBG.out)) (fun _ _ e => e))
                  go_wp2_with fail
                  go_end0
                  refine ⟨rfl, ?_, HKe.out⟩
                  rw [HPP.out, HNM.out, HS.out, if_pos True.intro, HSW.out, if_neg (by simp), HGR.out]
                  exact ⟨_, _, _, HIe.out⟩
            · have hsq : (x3.draw 100).sp = true := hsp
              rw [hsq] at qs
              have HSV := hid hsq
              have HSW := hid hsp
              clear hsp hsq
              go_upto_region 19 with (
                go_at_call 47
                have hadd := add_any HI.out.gm (plA 9 0 0 0 0 0) (plA_ok _ _ _ _ _ _ _ _) (by rw [HI.out.len]; simp only [AS.draw_l]; omega)
                rw [plA_cells] at hadd
                (with_reducible refine hadd.mono ?_)
                rintro e y2 ⟨rfl, ⟨A9, cp9, hg9, hq9⟩, hk9⟩
                have HI2 := hid (HI.out.added (Nat.le_trans hw HKB.out.size) hg9 hk9 hq9 (plA_val _ _ _ _ _ _))
                have HKB2 := hid (HKB.out.trans (HI.out.keepA hk9) (fun _ _ e => e))
                clear hg9 hq9 hk9 hadd HI HKB
                have HI := HI2
                have HKB := HKB2
                clear HI2 HKB2
                clear q0 q1 q2 q3 q4 r0 r1 r2 r3 r4 r5 r6 qd qs ql qf qg
                obtain ⟨q0, q1, q2, q3, q4, r0, r1, r2, r3, r4, r5, r6, qd, qs, ql, qf, qg⟩ := HI.out.gm.gc
                try simp only [AS.draw_di, AS.add_di] at qd)
              have HIe := hid HI.out.flipped
              have HKe := hid (HKB.out.trans (((Keep.refl (· = g) _).put 24 (.bool (!((x3.draw 100).add ⟨9, 0, 0, 0, 0, 0, [], []⟩).sp))).wide (fun i _ e => by subst e; exact HBG.out)) (fun _ _ e => e))
              go_wp2_with fail
              go_end0
              exact ⟨rfl, by rw [HNM.out, HS.out, HSW.out]; exact ⟨_, _, _, HIe.out⟩, HKe.out⟩
end
end Go.Proofs.Ytnejacmmbfeneaa

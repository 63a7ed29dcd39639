import Derived.Test.YtnejacmmbfeneaaGenC
import Derived.Deep.Cut
import Derived.Deep.CutRange
namespace Go.Proofs.Ytnejacmmbfeneaa
open Go.RowKit Go.PlainAid

section
variable {B : Nat} {w : World} {g r : Nat} {c : CF} {m : RT} {x : AS} {A : Option Addr} {cp : Nat} {la : List AC}
def StepPost (B : Nat) (w : World) (g r : Nat) (c : CF) (m : RT) (x : AS) (e : Ending) (w' : World) : Prop := e = .returned (.tuple #[]) ∧ GI.Ex B w' g r c m x ∧ Keep (B ≤ ·) w w'
set_option maxRecDepth 100000 in
set_option maxHeartbeats 8000000 in
theorem callers_any (h : GI B w g r c m x A cp la) (hw : B ≤ w.heap.size) (hl : x.l.length ≤ 99000) (hd0 : 0 ≤ x.di) (hd1 : x.di ≤ 99000) (hc : 1 ≤ (c.dis.length : Int)) (hc2 : (c.dis.length : Int) ≤ 4096) : Calls Try.prog 48 #[.pointer (some ⟨g, 0, none⟩)] w (StepPost B w g r c m (b3M (b2M (b1M c.dis.length m.a0 x)))) := by
  have HI := hid h
  have HKB := hid (Keep.refl (B ≤ ·) w)
  clear h
  obtain ⟨q0, q1, q2, q3, q4, r0, r1, r2, r3, r4, r5, r6, qd, qs, ql, qf, qg⟩ := HI.out.gm.gc
  go_enter Try.func48, Try.ntmps48
  go_upto_if 17 with (
    go_at_call 62
    (with_reducible refine (occurs_any HI.out.gm _).mono ?_)
    rintro e w2 ⟨rfl, hg9, hk9⟩
    have HKB2 := hid (HKB.out.trans (HI.out.keepR hk9) (fun _ _ e => e))
    have HI2 := hid (HI.out.draw hg9 hk9)
    clear hg9 hk9 HI HKB
    have HI := HI2
    have HKB := HKB2
    clear HI2 HKB2
    clear q0 q1 q2 q3 q4 r0 r1 r2 r3 r4 r5 r6 qd qs ql qf qg
    obtain ⟨q0, q1, q2, q3, q4, r0, r1, r2, r3, r4, r5, r6, qd, qs, ql, qf, qg⟩ := HI.out.gm.gc
    try simp only [AS.draw_di] at qd)
  have HBG := hid HI.out.bg
  go_cut [] from 17 (fun w' => Hid (GI.Ex B w' g r c m (b1M c.dis.length m.a0 x) ∧ Keep (B ≤ ·) w w'))
  case first =>
    cases hb : occ m.a0 x.s
    · have HBB := hid hb
      clear hb
      go_wp2_with fail
      go_meet
      exact hid ⟨by rw [b1M, HBB.out]; exact ⟨_, _, _, HI.out⟩, HKB.out⟩
    · have HBB := hid hb
      clear hb
      go_upto_region 3 with (
        go_at_call 12
        (with_reducible refine (intn_any _ r _ _ HI.out.gm.rng (by omega)).mono ?_)
        rintro e w3 ⟨rfl, hg9, hk9⟩
        have HKB2 := hid (HKB.out.trans (HI.out.keepR hk9) (fun _ _ e => e))
        have HI2 := hid (HI.out.draw hg9 hk9)
        clear hg9 hk9 HI HKB
        have HI := HI2
        have HKB := HKB2
        clear HI2 HKB2
        clear q0 q1 q2 q3 q4 r0 r1 r2 r3 r4 r5 r6 qd qs ql qf qg
        obtain ⟨q0, q1, q2, q3, q4, r0, r1, r2, r3, r4, r5, r6, qd, qs, ql, qf, qg⟩ := HI.out.gm.gc
        try simp only [AS.draw_di] at qd
        obtain ⟨hn0, hn1⟩ := roll_in c.dis.length (x.draw 100).s hc
        generalize hN : roll c.dis.length (x.draw 100).s = n at *
        have HN := hid hN
        clear hN)
      go_upto_region 4 with (
        go_at_call 12
        (with_reducible refine (intn_any _ r _ _ HI.out.gm.rng (by omega)).mono ?_)
        rintro e w4 ⟨rfl, hg9, hk9⟩
        have HKB2 := hid (HKB.out.trans (HI.out.keepR hk9) (fun _ _ e => e))
        have HI2 := hid (HI.out.draw hg9 hk9)
        clear hg9 hk9 HI HKB
        have HI := HI2
        have HKB := HKB2
        clear HI2 HKB2
        clear q0 q1 q2 q3 q4 r0 r1 r2 r3 r4 r5 r6 qd qs ql qf qg
        obtain ⟨q0, q1, q2, q3, q4, r0, r1, r2, r3, r4, r5, r6, qd, qs, ql, qf, qg⟩ := HI.out.gm.gc
        try simp only [AS.draw_di] at qd
        obtain ⟨hk0, hk1⟩ := roll_in 3 ((x.draw 100).draw c.dis.length).s (by omega)
        generalize hN : roll 3 ((x.draw 100).draw c.dis.length).s = k at *
        have HN3 := hid hN
        clear hN)
      have HA := HI
      have HLT := hid (show r < w4.heap.size ∧ g < w4.heap.size from ⟨HI.out.gm.rng.blk.lt, qg⟩)
      have HB3 := hid ((Blk.made w4 3 #[.int .i64 n]).alloc (.cells #[.int .i64 (1 + k), .slice (some ⟨w4.heap.size, 0, none⟩) 1 1] 61))
      have hb4 := Blk.made (w4.alloc (.cells #[.int .i64 n] 3)) 61 #[.int .i64 (1 + k), .slice (some ⟨w4.heap.size, 0, none⟩) 1 1]
      rw [World.size_alloc] at hb4
      have HB4 := hid hb4
      clear hb4
      have HKc := hid (((Keep.refl (· = r) w4).alloc (.cells #[.int .i64 n] 3)).alloc (.cells #[.int .i64 (1 + k), .slice (some ⟨w4.heap.size, 0, none⟩) 1 1] 61))
      have HGc := hid (HI.out.gm.rng.keep (((Keep.refl (fun _ => False) w4).alloc (.cells #[.int .i64 n] 3)).alloc (.cells #[.int .i64 (1 + k), .slice (some ⟨w4.heap.size, 0, none⟩) 1 1] 61)) (fun f => f))
      generalize (w4.alloc (.cells #[.int .i64 n] 3)).alloc (.cells #[.int .i64 (1 + k), .slice (some ⟨w4.heap.size, 0, none⟩) 1 1] 61) = w5 at *
      go_upto_if 33 with (
        go_at_call 14
        (with_reducible refine (chance_any _ r _ _ _ HGc.out (by omega)).mono ?_)
        rintro e w6 ⟨rfl, hg9, hk9⟩
        have HKc2 := hid (HKc.out.trans hk9 (fun _ _ e => e))
        have HGc2 := hid hg9
        have HB3b := hid (HB3.out.keep hk9 (fun e => by have := HLT.out; omega))
        have HB4b := hid (HB4.out.keep hk9 (fun e => by have := HLT.out; omega))
        clear HB3 HB4
        have HB3 := HB3b
        have HB4 := HB4b
        clear HB3b HB4b
        have HI2 := hid (HA.out.draws hg9 HKc2.out)
        clear hg9 hk9 HI HKc HGc
        have HI := HI2
        have HKc := HKc2
        have HGc := HGc2
        clear HI2 HKc2 HGc2
        clear q0 q1 q2 q3 q4 r0 r1 r2 r3 r4 r5 r6 qd qs ql qf qg
        obtain ⟨q0, q1, q2, q3, q4, r0, r1, r2, r3, r4, r5, r6, qd, qs, ql, qf, qg⟩ := HI.out.gm.gc
        try simp only [AS.draw_di] at qd)
      generalize hX : ((x.draw 100).draw c.dis.length).draw 3 = x3 at *
      have HX := hid hX
      clear hX
      go_cut [] from 33 (fun w' => Hid (∃ b5 : Nat, w4.heap.size ≤ b5 ∧ Blk w' (w4.heap.size + 1) 61 #[.int .i64 (1 + k), .slice (some ⟨b5, 0, none⟩) (srcM c.dis.length n x3).1.length (srcM c.dis.length n x3).1.length] ∧ Blk w' b5 3 (icellsC (srcM c.dis.length n x3).1).toArray ∧ Gn w' 63 r (srcM c.dis.length n x3).2.s ∧ Keep (· = r) w4 w'))
      case first =>
        cases hb : chc 1 2 x3.s
        · have HCB := hid hb
          clear hb
          go_wp2_with fail
          go_meet
          exact hid ⟨w4.heap.size, Nat.le_refl _, by rw [srcM, HCB.out]; exact HB4.out, by rw [srcM, HCB.out]; exact HB3.out, by rw [srcM, HCB.out]; exact HGc.out, HKc.out⟩
        · have HCB := hid hb
          clear hb
          go_upto_region 6 with (
            go_at_call 12
            (with_reducible refine (intn_any _ r _ _ HGc.out (by omega)).mono ?_)
            rintro e w7 ⟨rfl, hg9, hk9⟩
            have HKc2 := hid (HKc.out.trans hk9 (fun _ _ e => e))
            have HGc2 := hid hg9
            have HB3b := hid (HB3.out.keep hk9 (fun e => by have := HLT.out; omega))
            have HB4b := hid (HB4.out.keep hk9 (fun e => by have := HLT.out; omega))
            clear HB3 HB4
            have HB3 := HB3b
            have HB4 := HB4b
            clear HB3b HB4b
            have HI2 := hid (HA.out.draws hg9 HKc2.out)
            clear hg9 hk9 HI HKc HGc
            have HI := HI2
            have HKc := HKc2
            have HGc := HGc2
            clear HI2 HKc2 HGc2
            clear q0 q1 q2 q3 q4 r0 r1 r2 r3 r4 r5 r6 qd qs ql qf qg
            obtain ⟨q0, q1, q2, q3, q4, r0, r1, r2, r3, r4, r5, r6, qd, qs, ql, qf, qg⟩ := HI.out.gm.gc
            try simp only at qd
            obtain ⟨hm0, hm1⟩ := roll_in c.dis.length (aft 2 x3.s) hc
            generalize hM : roll c.dis.length (aft 2 x3.s) = q at *
            have HM := hid hM
            clear hM)
          have HSR := hid (show srcM c.dis.length n x3 = (pair n q, (x3.draw 2).draw c.dis.length) by rw [srcM, HCB.out, ← HM.out]; rfl)
          have c4 : w7.cell? ⟨w4.heap.size + 1, 1, none⟩ = some (.slice (some ⟨w4.heap.size, 0, none⟩) 1 1) := HB4.out.at_ 1
          have f4 := HB4.out.free 1
          have l4 := HB4.out.lt
          by_cases g1 : q < n
          · have HPR := hid (show pair n q = [q, n] by rw [pair, if_pos g1])
            go_wp2_with fail
            go_meet
            have hz : (w7.setCell ⟨w4.heap.size + 1, 1, none⟩ (.slice (some ⟨w7.heap.size, 0, none⟩) 2 2)).heap.size = w7.heap.size := by simp [World.setCell]
            have hn2 := Blk.made (w7.setCell ⟨w4.heap.size + 1, 1, none⟩ (.slice (some ⟨w7.heap.size, 0, none⟩) 2 2)) 3 #[.int .i64 q, .int .i64 n]
            rw [hz] at hn2
            have hs2 := (HB4.out.put 1 (.slice (some ⟨w7.heap.size, 0, none⟩) 2 2)).alloc (.cells #[.int .i64 q, .int .i64 n] 3)
            have hkk := (HKc.out.setCell (p := ⟨w4.heap.size + 1, 1, none⟩) (fun hlt => absurd (show w4.heap.size + 1 < w4.heap.size from hlt) (by omega)) (.slice (some ⟨w7.heap.size, 0, none⟩) 2 2)).alloc (.cells #[.int .i64 q, .int .i64 n] 3)
            have hgg := (HGc.out.keep (((Keep.refl (· = w4.heap.size + 1) w7).put 1 (.slice (some ⟨w7.heap.size, 0, none⟩) 2 2))) (fun e => by have := HLT.out; omega)).keep ((Keep.refl (fun _ => False) _).alloc (.cells #[.int .i64 q, .int .i64 n] 3)) (fun f => f)
            exact hid ⟨w7.heap.size, by have := HKc.out.size; omega, by rw [HSR.out]; simp only [HPR.out]; exact hs2, by rw [HSR.out]; simp only [HPR.out]; exact hn2, by rw [HSR.out]; exact hgg, hkk⟩
          · by_cases g2 : n < q
            · have HPR := hid (show pair n q = [n, q] by rw [pair, if_neg g1, if_pos g2])
              go_wp2_with fail
              go_meet
              have hz : (w7.setCell ⟨w4.heap.size + 1, 1, none⟩ (.slice (some ⟨w7.heap.size, 0, none⟩) 2 2)).heap.size = w7.heap.size := by simp [World.setCell]
              have hn2 := Blk.made (w7.setCell ⟨w4.heap.size + 1, 1, none⟩ (.slice (some ⟨w7.heap.size, 0, none⟩) 2 2)) 3 #[.int .i64 n, .int .i64 q]
              rw [hz] at hn2
              have hs2 := (HB4.out.put 1 (.slice (some ⟨w7.heap.size, 0, none⟩) 2 2)).alloc (.cells #[.int .i64 n, .int .i64 q] 3)
              have hkk := (HKc.out.setCell (p := ⟨w4.heap.size + 1, 1, none⟩) (fun hlt => absurd (show w4.heap.size + 1 < w4.heap.size from hlt) (by omega)) (.slice (some ⟨w7.heap.size, 0, none⟩) 2 2)).alloc (.cells #[.int .i64 n, .int .i64 q] 3)
              have hgg := (HGc.out.keep (((Keep.refl (· = w4.heap.size + 1) w7).put 1 (.slice (some ⟨w7.heap.size, 0, none⟩) 2 2))) (fun e => by have := HLT.out; omega)).keep ((Keep.refl (fun _ => False) _).alloc (.cells #[.int .i64 n, .int .i64 q] 3)) (fun f => f)
              exact hid ⟨w7.heap.size, by have := HKc.out.size; omega, by rw [HSR.out]; simp only [HPR.out]; exact hs2, by rw [HSR.out]; simp only [HPR.out]; exact hn2, by rw [HSR.out]; exact hgg, hkk⟩
            · have HPR := hid (show pair n q = [n] by rw [pair, if_neg g1, if_neg g2])
              go_wp2_with fail
              go_meet
              exact hid ⟨w4.heap.size, Nat.le_refl _, by rw [HSR.out, HPR.out]; exact HB4.out, by rw [HSR.out, HPR.out]; exact HB3.out, by rw [HSR.out]; exact HGc.out, HKc.out⟩
      case rest =>
        obtain ⟨b5, hb5, hs4, hn5, hg5, hk5⟩ := hcut.out
        clear hcut HI HKc HGc HB3 HB4
        have hsr := srcM_rest c.dis.length n x3
        have hxd : x3.di = x.di := by rw [← HX.out]; rfl
        have HI := hid (HA.out.draws hg5 hk5)
        have HFAR := hid (fun q (h : w4.heap.size ≤ q) => HA.out.far h)
        have HKB5 := hid (HKB.out.trans (HA.out.keepR hk5) (fun _ _ e => e))
        have HWB := hid (show B ≤ w4.heap.size from Nat.le_trans hw HKB.out.size)
        have h45 := hk5.size
        have HLT2 := hid (show w4.heap.size + 1 < wc.heap.size from hs4.lt)
        have HXV := hid (show b1M c.dis.length m.a0 x = (srcM c.dis.length n x3).2.dial.add ⟨1, 0, 0, 0, 0, n, [(1 + k, (srcM c.dis.length n x3).1)], []⟩ by
          rw [b1M, HBB.out]
          simp only [if_true, dialM]
          rw [HN.out, HN3.out, HX.out])
        have hnl := srcM_len c.dis.length n x3
        have hll : la.length ≤ 99000 := by rw [HI.out.len]; show x3.l.length ≤ 99000; rw [← HX.out]; exact hl
        generalize (srcM c.dis.length n x3).1 = nodes at *
        generalize (srcM c.dis.length n x3).2 = x4 at *
        have HSR := hid hsr
        have HN5 := hid hn5
        have HS4 := hid hs4
        clear hs4 hn5 hsr hg5
        have c40 : wc.cell? ⟨w4.heap.size + 1, 0, none⟩ = some (.int .i64 (1 + k)) := HS4.out.at_ 0
        have c41 : wc.cell? ⟨w4.heap.size + 1, 1, none⟩ = some (.slice (some ⟨b5, 0, none⟩) nodes.length nodes.length) := HS4.out.at_ 1
        have l4 := HLT2.out
        clear q0 q1 q2 q3 q4 r0 r1 r2 r3 r4 r5 r6 qd qs ql qf qg
        obtain ⟨q0, q1, q2, q3, q4, r0, r1, r2, r3, r4, r5, r6, qd, qs, ql, qf, qg⟩ := HI.out.gm.gc
        simp only at qd qs
        have hx0 : 0 ≤ x3.di := by omega
        have hx1 : x3.di ≤ 99000 := by omega
        have hgne : g ≠ w4.heap.size + 1 := by have := HLT.out.2; omega
        clear hxd
        go_upto_region 11 with fail
        have HIe := hid HI.out.dialed
        have hkg := (Keep.refl (· = g) wc).put 23 (.int .i64 (x3.di + 1))
        have hzz : (wc.setCell ⟨g, 23, none⟩ (.int .i64 (x3.di + 1))).heap.size = wc.heap.size := by simp [World.setCell]
        have HS4e := hid (HS4.out.keep hkg (fun e => hgne e.symm))
        have HN5e := hid (HN5.out.keep hkg (fun e => by have := HLT.out.2; omega))
        have HKe := hid (HKB5.out.trans (hkg.wide (fun i _ e => by subst e; exact HBG.out)) (fun _ _ e => e))
        have d40 : (wc.setCell ⟨g, 23, none⟩ (.int .i64 (x3.di + 1))).cell? ⟨w4.heap.size + 1, 0, none⟩ = some (.int .i64 (1 + k)) := HS4e.out.at_ 0
        have d41 : (wc.setCell ⟨g, 23, none⟩ (.int .i64 (x3.di + 1))).cell? ⟨w4.heap.size + 1, 1, none⟩ = some (.slice (some ⟨b5, 0, none⟩) nodes.length nodes.length) := HS4e.out.at_ 1
        have l4e := HS4e.out.lt
        clear c40 c41 hkg
        clear q0 q1 q2 q3 q4 r0 r1 r2 r3 r4 r5 r6 qd qs ql qf qg
        generalize wc.setCell ⟨g, 23, none⟩ (.int .i64 (x3.di + 1)) = we at *
        have hkn := (Keep.refl (fun _ => False) we).alloc (.cells #[.int .i64 (1 + k), .slice (some ⟨b5, 0, none⟩) nodes.length nodes.length] 61)
        have hbs := Blk.made we 61 #[.int .i64 (1 + k), .slice (some ⟨b5, 0, none⟩) nodes.length nodes.length]
        rw [hzz] at hbs
        have HIn := hid (HIe.out.same hkn)
        have HKn := hid (HKe.out.trans (hkn.wide (fun _ _ f => f.elim)) (fun _ _ e => e))
        have hcz : B ≤ (we.alloc (.cells #[.int .i64 (1 + k), .slice (some ⟨b5, 0, none⟩) nodes.length nodes.length] 61)).heap.size := by have := HKn.out.size; omega
        have hadd := add_any HIn.out.gm (dialA n (1 + k) wc.heap.size b5 nodes) (dialA_ok hbs (HN5e.out.keep hkn (fun f => f)) (HFAR.out _ (by omega)) (HFAR.out _ hb5) hnl) (by omega)
        rw [dialA_cells] at hadd
        have HADD := hid hadd
        clear hadd
        clear hkn hbs
        go_wp2_with fail
        (with_reducible refine HADD.out.mono ?_)
        rintro e w9 ⟨rfl, ⟨A9, cp9, hg9, hq9⟩, hk9⟩
        have HF := hid (HIn.out.added hcz hg9 hk9 hq9 (dialA_val n (1 + k) wc.heap.size b5 nodes))
        have HKF := hid (HKn.out.trans (HIn.out.keepA hk9) (fun _ _ e => e))
        clear hg9 hq9 hk9
        go_wp2_with fail
        go_meet
        refine hid ⟨?_, HKF.out⟩
        rw [HXV.out, HSR.out]
        exact ⟨_, _, _, HF.out⟩
  case rest =>
    obtain ⟨⟨A, cp, la, hI⟩, hKB⟩ := hcut.out
    obtain ⟨hi1, hi2, hi3⟩ := b1M_in c.dis.length m.a0 x
    clear hcut HI HKB
    clear q0 q1 q2 q3 q4 r0 r1 r2 r3 r4 r5 r6 qd qs ql qf qg
    have HI := hid hI
    have HKB := hid hKB
    clear hI hKB
    generalize b1M c.dis.length m.a0 x = x1 at *
    obtain ⟨q0, q1, q2, q3, q4, r0, r1, r2, r3, r4, r5, r6, qd, qs, ql, qf, qg⟩ := HI.out.gm.gc
    by_cases hd : 0 < x1.di
    · have HP2 := hid (fun x2 (_ : chc 1 2 x1.s = true) (h : x2 = (((x1.draw 2).draw x1.di).draw 3).add ⟨2, 0, roll 3 ((x1.draw 2).draw x1.di).s, 1 + roll x1.di (x1.draw 2).s, 0, 0, [], []⟩) => show b2M x1 = x2 by rw [b2M, if_pos hd, if_pos ‹_›, h])
      have HP3 := hid (fun (_ : chc 1 2 x1.s = false) => show b2M x1 = x1.draw 2 by rw [b2M, if_pos hd, if_neg (by simp [*])])
      go_upto_if 79 with (
        go_at_call 14
        (with_reducible refine (chance_any _ r _ _ _ HI.out.gm.rng (by omega)).mono ?_)
        rintro e w3 ⟨rfl, hg9, hk9⟩
        have HKB2 := hid (HKB.out.trans (HI.out.keepR hk9) (fun _ _ e => e))
        have HI2 := hid (HI.out.draw hg9 hk9)
        clear hg9 hk9 HI HKB
        have HI := HI2
        have HKB := HKB2
        clear HI2 HKB2
        clear q0 q1 q2 q3 q4 r0 r1 r2 r3 r4 r5 r6 qd qs ql qf qg
        obtain ⟨q0, q1, q2, q3, q4, r0, r1, r2, r3, r4, r5, r6, qd, qs, ql, qf, qg⟩ := HI.out.gm.gc
        try simp only [AS.draw_di] at qd)
      cases hb : chc 1 2 x1.s
      · have HB2 := hid (HP3.out hb)
        clear hb
        have hd2 : 0 < (x1.draw 2).di := hd
        have hx2b : (x1.draw 2).di ≤ 99001 := by show x1.di ≤ 99001; omega
        have hx2l : (x1.draw 2).l.length ≤ 99005 := by simp only [AS.draw_l]; omega
        generalize hX2 : x1.draw 2 = x2 at *
        have HX2 := hid hX2
        clear hX2
        have HP4 := hid (fun (_ : chc 1 20 x2.s = true) => show b3M x2 = ((x2.draw 20).draw x2.di).add ⟨3, 0, 0, 1 + roll x2.di (x2.draw 20).s, 0, 0, [], []⟩ by rw [b3M, if_pos hd2, if_pos ‹_›])
        have HP5 := hid (fun (_ : chc 1 20 x2.s = false) => show b3M x2 = x2.draw 20 by rw [b3M, if_pos hd2, if_neg (by simp [*])])
        go_upto_if 101 with (
          go_at_call 14
          (with_reducible refine (chance_any _ r _ _ _ HI.out.gm.rng (by omega)).mono ?_)
          rintro e w7 ⟨rfl, hg9, hk9⟩
          have HKB2 := hid (HKB.out.trans (HI.out.keepR hk9) (fun _ _ e => e))
          have HI2 := hid (HI.out.draw hg9 hk9)
          clear hg9 hk9 HI HKB
          have HI := HI2
          have HKB := HKB2
          clear HI2 HKB2
          clear q0 q1 q2 q3 q4 r0 r1 r2 r3 r4 r5 r6 qd qs ql qf qg
          obtain ⟨q0, q1, q2, q3, q4, r0, r1, r2, r3, r4, r5, r6, qd, qs, ql, qf, qg⟩ := HI.out.gm.gc
          try simp only [AS.draw_di] at qd)
        cases hb3 : chc 1 20 x2.s
        · have HB3 := hid (HP5.out hb3)
          clear hb3
          go_wp2_with fail
          go_end0
          exact ⟨rfl, by rw [HB2.out, HB3.out]; exact ⟨_, _, _, HI.out⟩, HKB.out⟩
        · have HB3 := hid (HP4.out hb3)
          clear hb3
          obtain ⟨he0, he1⟩ := roll_in x2.di (x2.draw 20).s (by omega)
          go_wp2_with (first
            | (
              go_at_call 12
              (with_reducible refine (intn_any _ r _ _ HI.out.gm.rng (by omega)).mono ?_)
              rintro e w8 ⟨rfl, hg9, hk9⟩
              have HKB2 := hid (HKB.out.trans (HI.out.keepR hk9) (fun _ _ e => e))
              have HI2 := hid (HI.out.draw hg9 hk9)
              clear hg9 hk9 HI HKB
              have HI := HI2
              have HKB := HKB2
              clear HI2 HKB2
              clear q0 q1 q2 q3 q4 r0 r1 r2 r3 r4 r5 r6 qd qs ql qf qg
              obtain ⟨q0, q1, q2, q3, q4, r0, r1, r2, r3, r4, r5, r6, qd, qs, ql, qf, qg⟩ := HI.out.gm.gc
              try simp only [AS.draw_di] at qd)
            | (
              go_at_call 47
              have hadd := add_any HI.out.gm (plA 3 0 0 (1 + roll x2.di (x2.draw 20).s) 0 0) (plA_ok _ _ _ _ _ _ _ _) (by rw [HI.out.len]; simp only [AS.draw_l]; omega)
              rw [plA_cells] at hadd
              (with_reducible refine hadd.mono ?_)
              rintro e w9b ⟨rfl, ⟨A9, cp9, hg9, hq9⟩, hk9⟩
              have HI2 := hid (HI.out.added (Nat.le_trans hw HKB.out.size) hg9 hk9 hq9 (plA_val _ _ _ _ _ _))
              have HKB2 := hid (HKB.out.trans (HI.out.keepA hk9) (fun _ _ e => e))
              clear hg9 hq9 hk9 hadd HI HKB
              have HI := HI2
              have HKB := HKB2
              clear HI2 HKB2
              clear q0 q1 q2 q3 q4 r0 r1 r2 r3 r4 r5 r6 qd qs ql qf qg
              obtain ⟨q0, q1, q2, q3, q4, r0, r1, r2, r3, r4, r5, r6, qd, qs, ql, qf, qg⟩ := HI.out.gm.gc
              try simp only [AS.draw_di, AS.add_di] at qd))
          go_end0
          exact ⟨rfl, by rw [HB2.out, HB3.out]; exact ⟨_, _, _, HI.out⟩, HKB.out⟩
      · have HB2 := hid (HP2.out _ hb rfl)
        clear hb
        go_upto_region 14 with (
          go_at_call 12
          (with_reducible refine (intn_any _ r _ _ HI.out.gm.rng (by omega)).mono ?_)
          rintro e w4 ⟨rfl, hg9, hk9⟩
          have HKB2 := hid (HKB.out.trans (HI.out.keepR hk9) (fun _ _ e => e))
          have HI2 := hid (HI.out.draw hg9 hk9)
          clear hg9 hk9 HI HKB
          have HI := HI2
          have HKB := HKB2
          clear HI2 HKB2
          clear q0 q1 q2 q3 q4 r0 r1 r2 r3 r4 r5 r6 qd qs ql qf qg
          obtain ⟨q0, q1, q2, q3, q4, r0, r1, r2, r3, r4, r5, r6, qd, qs, ql, qf, qg⟩ := HI.out.gm.gc
          try simp only [AS.draw_di] at qd
          obtain ⟨hc0, hc1⟩ := roll_in x1.di (x1.draw 2).s (by omega))
        go_upto_region 15 with (first
          | (
            go_at_call 12
            (with_reducible refine (intn_any _ r _ _ HI.out.gm.rng (by omega)).mono ?_)
            rintro e w5 ⟨rfl, hg9, hk9⟩
            have HKB2 := hid (HKB.out.trans (HI.out.keepR hk9) (fun _ _ e => e))
            have HI2 := hid (HI.out.draw hg9 hk9)
            clear hg9 hk9 HI HKB
            have HI := HI2
            have HKB := HKB2
            clear HI2 HKB2
            clear q0 q1 q2 q3 q4 r0 r1 r2 r3 r4 r5 r6 qd qs ql qf qg
            obtain ⟨q0, q1, q2, q3, q4, r0, r1, r2, r3, r4, r5, r6, qd, qs, ql, qf, qg⟩ := HI.out.gm.gc
            try simp only [AS.draw_di] at qd)
          | (
            go_at_call 47
            have hadd := add_any HI.out.gm (plA 2 0 (roll 3 ((x1.draw 2).draw x1.di).s) (1 + roll x1.di (x1.draw 2).s) 0 0) (plA_ok _ _ _ _ _ _ _ _) (by rw [HI.out.len]; simp only [AS.draw_l]; omega)
            rw [plA_cells] at hadd
            (with_reducible refine hadd.mono ?_)
            rintro e w6 ⟨rfl, ⟨A9, cp9, hg9, hq9⟩, hk9⟩
            have HI2 := hid (HI.out.added (Nat.le_trans hw HKB.out.size) hg9 hk9 hq9 (plA_val _ _ _ _ _ _))
            have HKB2 := hid (HKB.out.trans (HI.out.keepA hk9) (fun _ _ e => e))
            clear hg9 hq9 hk9 hadd HI HKB
            have HI := HI2
            have HKB := HKB2
            clear HI2 HKB2
            clear q0 q1 q2 q3 q4 r0 r1 r2 r3 r4 r5 r6 qd qs ql qf qg
            obtain ⟨q0, q1, q2, q3, q4, r0, r1, r2, r3, r4, r5, r6, qd, qs, ql, qf, qg⟩ := HI.out.gm.gc
            try simp only [AS.draw_di, AS.add_di] at qd))
        have hd2 : 0 < ((((x1.draw 2).draw x1.di).draw 3).add ⟨2, 0, roll 3 ((x1.draw 2).draw x1.di).s, 1 + roll x1.di (x1.draw 2).s, 0, 0, [], []⟩).di := hd
        have hx2b : ((((x1.draw 2).draw x1.di).draw 3).add ⟨2, 0, roll 3 ((x1.draw 2).draw x1.di).s, 1 + roll x1.di (x1.draw 2).s, 0, 0, [], []⟩).di ≤ 99001 := by show x1.di ≤ 99001; omega
        have hx2l : ((((x1.draw 2).draw x1.di).draw 3).add ⟨2, 0, roll 3 ((x1.draw 2).draw x1.di).s, 1 + roll x1.di (x1.draw 2).s, 0, 0, [], []⟩).l.length ≤ 99005 := by simp only [AS.add_l, AS.draw_l, List.length_append, List.length_singleton]; omega
        generalize hX2 : (((x1.draw 2).draw x1.di).draw 3).add ⟨2, 0, roll 3 ((x1.draw 2).draw x1.di).s, 1 + roll x1.di (x1.draw 2).s, 0, 0, [], []⟩ = x2 at *
        have HX2 := hid hX2
        clear hX2
        have HP4 := hid (fun (_ : chc 1 20 x2.s = true) => show b3M x2 = ((x2.draw 20).draw x2.di).add ⟨3, 0, 0, 1 + roll x2.di (x2.draw 20).s, 0, 0, [], []⟩ by rw [b3M, if_pos hd2, if_pos ‹_›])
        have HP5 := hid (fun (_ : chc 1 20 x2.s = false) => show b3M x2 = x2.draw 20 by rw [b3M, if_pos hd2, if_neg (by simp [*])])
        go_upto_if 101 with (
          go_at_call 14
          (with_reducible refine (chance_any _ r _ _ _ HI.out.gm.rng (by omega)).mono ?_)
          rintro e w7 ⟨rfl, hg9, hk9⟩
          have HKB2 := hid (HKB.out.trans (HI.out.keepR hk9) (fun _ _ e => e))
          have HI2 := hid (HI.out.draw hg9 hk9)
          clear hg9 hk9 HI HKB
          have HI := HI2
          have HKB := HKB2
          clear HI2 HKB2
          clear q0 q1 q2 q3 q4 r0 r1 r2 r3 r4 r5 r6 qd qs ql qf qg
          obtain ⟨q0, q1, q2, q3, q4, r0, r1, r2, r3, r4, r5, r6, qd, qs, ql, qf, qg⟩ := HI.out.gm.gc
          try simp only [AS.draw_di] at qd)
        cases hb3 : chc 1 20 x2.s
        · have HB3 := hid (HP5.out hb3)
          clear hb3
          go_wp2_with fail
          go_end0
          exact ⟨rfl, by rw [HB2.out, HB3.out]; exact ⟨_, _, _, HI.out⟩, HKB.out⟩
        · have HB3 := hid (HP4.out hb3)
          clear hb3
          obtain ⟨he0, he1⟩ := roll_in x2.di (x2.draw 20).s (by omega)
          go_wp2_with (first
            | (
              go_at_call 12
              (with_reducible refine (intn_any _ r _ _ HI.out.gm.rng (by omega)).mono ?_)
              rintro e w8 ⟨rfl, hg9, hk9⟩
              have HKB2 := hid (HKB.out.trans (HI.out.keepR hk9) (fun _ _ e => e))
              have HI2 := hid (HI.out.draw hg9 hk9)
              clear hg9 hk9 HI HKB
              have HI := HI2
              have HKB := HKB2
              clear HI2 HKB2
              clear q0 q1 q2 q3 q4 r0 r1 r2 r3 r4 r5 r6 qd qs ql qf qg
              obtain ⟨q0, q1, q2, q3, q4, r0, r1, r2, r3, r4, r5, r6, qd, qs, ql, qf, qg⟩ := HI.out.gm.gc
              try simp only [AS.draw_di] at qd)
            | (
              go_at_call 47
              have hadd := add_any HI.out.gm (plA 3 0 0 (1 + roll x2.di (x2.draw 20).s) 0 0) (plA_ok _ _ _ _ _ _ _ _) (by rw [HI.out.len]; simp only [AS.draw_l]; omega)
              rw [plA_cells] at hadd
              (with_reducible refine hadd.mono ?_)
              rintro e w9b ⟨rfl, ⟨A9, cp9, hg9, hq9⟩, hk9⟩
              have HI2 := hid (HI.out.added (Nat.le_trans hw HKB.out.size) hg9 hk9 hq9 (plA_val _ _ _ _ _ _))
              have HKB2 := hid (HKB.out.trans (HI.out.keepA hk9) (fun _ _ e => e))
              clear hg9 hq9 hk9 hadd HI HKB
              have HI := HI2
              have HKB := HKB2
              clear HI2 HKB2
              clear q0 q1 q2 q3 q4 r0 r1 r2 r3 r4 r5 r6 qd qs ql qf qg
              obtain ⟨q0, q1, q2, q3, q4, r0, r1, r2, r3, r4, r5, r6, qd, qs, ql, qf, qg⟩ := HI.out.gm.gc
              try simp only [AS.draw_di, AS.add_di] at qd))
          go_end0
          exact ⟨rfl, by rw [HB2.out, HB3.out]; exact ⟨_, _, _, HI.out⟩, HKB.out⟩
    · have HB2 := hid (show b2M x1 = x1 by rw [b2M, if_neg hd])
      have HB3 := hid (show b3M x1 = x1 by rw [b3M, if_neg hd])
      go_wp2_with fail
      go_end0
      exact ⟨rfl, by rw [HB2.out, HB3.out]; exact ⟨_, _, _, HI.out⟩, HKB.out⟩
end
end Go.Proofs.Ytnejacmmbfeneaa

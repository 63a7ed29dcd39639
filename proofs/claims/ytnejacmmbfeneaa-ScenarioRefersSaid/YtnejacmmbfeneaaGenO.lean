import Derived.Test.YtnejacmmbfeneaaGenN
import Derived.IntWalk
namespace Go.Proofs.Ytnejacmmbfeneaa
open Go.RowKit Go.PlainAid

def AS.noL (x : AS) : AS := ⟨x.s, x.di, x.sp, x.dn, []⟩
def RndPost (w : World) (b r d : Nat) (c : CF) (m : RT) (y : AS) (e : Ending) (w' : World) : Prop := ∃ A cp la, e = .returned (.slice A la.length cp) ∧ RI w w' b r d c m y A cp la
theorem RI.start {w : World} {b r d : Nat} {c : CF} {x : AS} (h : RM w b r d c x) (m : RT) : RI w ((w.alloc (.cells m.cells.toArray 54)).alloc (.cells (plA 4 0 0 0 0 0).cells.toArray 59)) b r d c m (x.noL.add tickA) (some ⟨w.heap.size + 1, 0, none⟩) 1 [plA 4 0 0 0 0 0] := by
  have hs : Same w ((w.alloc (.cells m.cells.toArray 54)).alloc (.cells (plA 4 0 0 0 0 0).cells.toArray 59)) := ((Keep.refl _ w).alloc _).alloc _
  have hb := Blk.made (w.alloc (.cells m.cells.toArray 54)) 59 (plA 4 0 0 0 0 0).cells.toArray
  rw [World.size_alloc] at hb
  refine ⟨(h.same hs).noL rfl rfl rfl rfl, ?_, ?_, hs.wide (fun _ _ f => f.elim), fun q e => ?_, (Blk.made w _ _).alloc _, rfl, h.lts⟩
  · exact Own.of_blk (Nat.zero_le _) hb (Nat.le_refl _) (by unfold maxLen; omega) (by rfl) (by rfl)
  · intro a ha
    simp only [List.mem_singleton] at ha
    subst ha
    exact AcK.plain _ _ _ _ _ _ _ _
  · simp at e; omega
def g2 (x : AS) : AS := if 0 < x.di then x.draw 2 else x
def g20 (x : AS) : AS := if 0 < x.di then x.draw 20 else x
def gu (nu : Int) (x : AS) : AS := if 0 < nu then x.draw 2 else x
theorem b2M_gate (x : AS) : b2M x = if (decide (0 < x.di) && chc 1 2 x.s) = true then (((g2 x).draw (g2 x).di).draw 3).add ⟨2, 0, roll 3 ((g2 x).draw (g2 x).di).s, 1 + roll (g2 x).di (g2 x).s, 0, 0, [], []⟩ else g2 x := by
  unfold b2M g2
  by_cases h : 0 < x.di
  · simp only [if_pos h, decide_eq_true h, Bool.true_and]; rfl
  · simp [h]
theorem b3M_gate (x : AS) : b3M x = if (decide (0 < x.di) && chc 1 20 x.s) = true then ((g20 x).draw (g20 x).di).add ⟨3, 0, 0, 1 + roll (g20 x).di (g20 x).s, 0, 0, [], []⟩ else g20 x := by
  unfold b3M g20
  by_cases h : 0 < x.di
  · simp only [if_pos h, decide_eq_true h, Bool.true_and]; rfl
  · simp [h]
theorem f2M_gate (cen ne rate : Int) (x : AS) : f2M cen ne rate x = if (occ rate x.s && decide (0 < ne)) = true then roadM (roll cen (x.draw 100).s) (roll ne ((x.draw 100).draw cen).s) (((x.draw 100).draw cen).draw ne) else x.draw 100 := by
  unfold f2M
  by_cases h : 0 < ne
  · simp only [if_pos h, decide_eq_true h, Bool.and_true]
  · simp [h]
theorem c1M_gate (nu : Int) (x : AS) : c1M nu x = if (decide (0 < nu) && chc 1 2 x.s) = true then ((gu nu x).draw nu).add ⟨12, roll nu (gu nu x).s, 0, 0, 0, 0, [], []⟩ else gu nu x := by
  unfold c1M gu
  by_cases h : 0 < nu
  · simp only [if_pos h, decide_eq_true h, Bool.true_and]
  · simp [h]
theorem c2M_gate (nu rate : Int) (x : AS) : c2M nu rate x = if (occ rate x.s && decide (0 < nu)) = true then ((x.draw 100).draw nu).add ⟨13, roll nu (x.draw 100).s, 0, 0, 0, 0, [], []⟩ else x.draw 100 := by
  unfold c2M
  by_cases h : 0 < nu
  · simp only [if_pos h, decide_eq_true h, Bool.and_true]
  · simp [h]
theorem g2_len (x : AS) : (g2 x).l = x.l ∧ (g2 x).di = x.di := by unfold g2; split <;> exact ⟨rfl, rfl⟩
theorem g20_len (x : AS) : (g20 x).l = x.l ∧ (g20 x).di = x.di := by unfold g20; split <;> exact ⟨rfl, rfl⟩
theorem gu_len (nu : Int) (x : AS) : (gu nu x).l = x.l ∧ (gu nu x).di = x.di := by unfold gu; split <;> exact ⟨rfl, rfl⟩
theorem RI.draws {w0 w w' : World} {b r d : Nat} {c : CF} {m : RT} {x : AS} {A : Option Addr} {cp : Nat} {la : List AC} (h : RI w0 w b r d c m x A cp la) {s' : Int} (hg : Gn w' 33 r s') (hk : Keep (· = r) w w') : RI w0 w' b r d c m ⟨s', x.di, x.sp, x.dn, x.l⟩ A cp la :=
  h.next ⟨h.rm.blk.keep hk h.rm.br, hg, h.rm.dwn.keep hk (fun e => h.rm.rd e.symm), h.rm.br, h.rm.bd, h.rm.rd, h.rm.dl⟩ rfl (hk.wide (fun _ _ e => .inr (.inl e)))
section
variable {w : World} {b r d : Nat} {c : CF} {m : RT} {x : AS}
set_option maxRecDepth 100000 in
set_option maxHeartbeats 16000000 in
theorem rround_any (h : RM w b r d c x) (hd0 : 0 ≤ x.di) (hd1 : x.di ≤ 90000) (hc : 1 ≤ (c.dis.length : Int)) (hc2 : (c.dis.length : Int) ≤ 4096) (hc3 : 1 ≤ c.cen) (hc4 : c.cen ≤ 9) (hu : (c.uni.length : Int) ≤ 256) (hne : (c.edg.length : Int) ≤ 9223372036854775807) : Calls Try.prog 34 #[.pointer (some ⟨b, 0, none⟩), .agg m.cells.toArray] w (RndPost w b r d c m (roundM c m x.noL)) := by
  have HRM := hid (show roundM c m x.noL = c3M c.cen (c2M c.uni.length m.a6 (c1M c.uni.length (f2M c.cen c.edg.length m.a5 (f1M c.cen m.a4 (splitM (placesN c).toNat m.a3 (evM 7 m.a2 (evM 6 m.a1 (iterM 3 (b3M (b2M (b1M c.dis.length m.a0 (x.noL.add tickA)))))))))))) from rfl)
  have HI := hid (RI.start h m)
  have HNE := hid hne
  clear h hne
  obtain ⟨m0, m1, m2, m3, m4, m5, m6⟩ := m
  simp only [RT.cells, plA_cells] at *
  have hx0 : (x.noL.add tickA).l.length ≤ 1 := by simp [AS.add, AS.noL]
  have hx0d : (x.noL.add tickA).di = x.di := rfl
  go_enter Try.func34, Try.ntmps34
  go_upto_region 1 with fail
  go_cut [5] from 9 to 10 (fun u5 w' => Hid (RI.Ex w w' b r d c ⟨m0, m1, m2, m3, m4, m5, m6⟩ (x.noL.add tickA) u5))
  case first =>
    go_wp2_with fail
    go_meet
    exact hid ⟨some ⟨w.heap.size + 1, 0, none⟩, 1, [plA 4 0 0 0 0 0], rfl, HI.out⟩
  case rest =>
    clear HI
    obtain ⟨A, cp, la, hu, hI⟩ := hcut.out
    subst hu
    clear hcut
    have HI := hid hI
    clear hI
    generalize x.noL.add tickA = X0 at *
    have hlx : X0.l.length ≤ 1 := hx0
    have hdx : 0 ≤ X0.di ∧ X0.di ≤ 90000 := by omega
    have hla : la.length ≤ 30 := by rw [HI.out.len]; omega
    clear hx0 hx0d
    obtain ⟨t0, t1, t2, t3, t4, t5, t6, t7, t8, t9, t10, t11, t12, t13, t14, t15, td, ts, tw, tf, tl⟩ := HI.out.rm.rc
    obtain ⟨n0, n1, n2, n3, n4, n5, n6, nl⟩ := HI.out.mc
    simp only at n0 n1 n2 n3 n4 n5 n6
    go_upto_if 14 with (
      go_at_call 52
      (with_reducible refine (roccurs_any HI.out.rm _).mono ?_)
      rintro e a0 ⟨rfl, hg9, hk9⟩
      have HI2 := hid (HI.out.draw hg9 hk9)
      clear hg9 hk9 HI
      have HI := HI2
      clear HI2
      clear t0 t1 t2 t3 t4 t5 t6 t7 t8 t9 t10 t11 t12 t13 t14 t15 td ts tw tf tl n0 n1 n2 n3 n4 n5 n6 nl
      obtain ⟨t0, t1, t2, t3, t4, t5, t6, t7, t8, t9, t10, t11, t12, t13, t14, t15, td, ts, tw, tf, tl⟩ := HI.out.rm.rc
      obtain ⟨n0, n1, n2, n3, n4, n5, n6, nl⟩ := HI.out.mc
      simp only at n0 n1 n2 n3 n4 n5 n6)
    go_cut [5] from 14 to 19 (fun u5 w' => Hid (RI.Ex w w' b r d c ⟨m0, m1, m2, m3, m4, m5, m6⟩ (b1M c.dis.length m0 X0) u5))
    case first =>
      cases hb : occ m0 X0.s
      · have HBB := hid (show b1M c.dis.length m0 X0 = X0.draw 100 by rw [b1M, hb]; rfl)
        clear hb
        go_wp2_with fail
        go_meet
        exact hid ⟨_, _, _, rfl, by rw [HBB.out]; exact HI.out⟩
      · have HBB := hid (show b1M c.dis.length m0 X0 = dialM c.dis.length (X0.draw 100) by rw [b1M, hb]; rfl)
        clear hb
        have hdq : 0 ≤ (X0.draw 100).di ∧ (X0.draw 100).di ≤ 99000 := by rw [AS.draw_di]; omega
        go_wp2_with (first
          | (
            go_at_call 53
            (with_reducible refine (rdial_any HI.out.rm hc hc2 hdq.1 hdq.2).mono ?_)
            rintro e a1 ⟨a, x9, he, hy, hm9, ha9, hk9⟩
            have HI2 := hid (HI.out.next hm9 (add_inj hy (dialM_l _ _)) hk9)
            have HA := hid (ha9.wide (Av' := fun i => i < w.heap.size ∨ A.map (·.block) = some i) (fun i _ hs => by
              rcases hs with hs | hs
              · have := HI.out.kp.size; omega
              · exact HI.out.own.lt i (by rw [ownB]; exact hs)))
            obtain ⟨kd, wh, nq, cl, ot, no, aS, acS, asr, aG, acG, agr⟩ := a
            simp only [AC.cells] at he
            subst he
            have HY := hid hy
            clear hy hm9 ha9 hk9 HI
            have HI := HI2
            clear HI2
            clear t0 t1 t2 t3 t4 t5 t6 t7 t8 t9 t10 t11 t12 t13 t14 t15 td ts tw tf tl n0 n1 n2 n3 n4 n5 n6 nl
            obtain ⟨t0, t1, t2, t3, t4, t5, t6, t7, t8, t9, t10, t11, t12, t13, t14, t15, td, ts, tw, tf, tl⟩ := HI.out.rm.rc
            obtain ⟨n0, n1, n2, n3, n4, n5, n6, nl⟩ := HI.out.mc
            simp only at n0 n1 n2 n3 n4 n5 n6)
          | (
            at_builtin
            refine EAc.law2 (.tmp 15) (.tmp 18) (.slice A la.length cp) (some ⟨a1.heap.size, 0, none⟩) 1 1 rfl rfl rfl rfl 0 la.length (accells la) (⟨kd, wh, nq, cl, ot, no, aS, acS, asr, aG, acG, agr⟩ : AC).cells (la.length + 1) (accells la ++ (⟨kd, wh, nq, cl, ot, no, aS, acS, asr, aG, acG, agr⟩ : AC).cells) rfl rfl (HI.out.own.keep ((Keep.refl (fun _ => False) a1).alloc _) (fun _ _ _ f => f)) rfl (fun _ => ⟨_, rfl, src_new (w := a1) rfl⟩) (fun u hu => accells_one [⟨kd, wh, nq, cl, ot, no, aS, acS, asr, aG, acG, agr⟩] u (by simpa [accells] using hu)) (by omega) (by unfold maxLen; omega) (Nat.zero_le _) ?_
            intro A7 c7 a2 ho7 hg7 hw7
            have HI2 := hid (HI.out.push ((Keep.refl (fun _ => False) a1).alloc _) ⟨kd, wh, nq, cl, ot, no, aS, acS, asr, aG, acG, agr⟩ HA.out ho7 hg7 hw7 rfl)
            clear ho7 hg7 hw7 HI
            have HI := HI2
            clear HI2
            clear t0 t1 t2 t3 t4 t5 t6 t7 t8 t9 t10 t11 t12 t13 t14 t15 td ts tw tf tl n0 n1 n2 n3 n4 n5 n6 nl))
        go_meet
        exact hid ⟨A7, c7, la ++ [⟨kd, wh, nq, cl, ot, no, aS, acS, asr, aG, acG, agr⟩], by simp, by rw [HBB.out, HY.out]; exact HI.out⟩
    case rest =>
      obtain ⟨A, cp, la, hu, hI⟩ := hcut.out
      subst hu
      clear hcut HI
      clear t0 t1 t2 t3 t4 t5 t6 t7 t8 t9 t10 t11 t12 t13 t14 t15 td ts tw tf tl n0 n1 n2 n3 n4 n5 n6 nl
      have HI := hid hI
      clear hI
      have hst := (b1M_stp c X0 m0 hc : Stp c 1 X0 (b1M c.dis.length m0 X0)).len
      generalize b1M c.dis.length m0 X0 = X1 at *
      have hlx2 : X1.l.length ≤ 2 := by omega
      have hdx2 : 0 ≤ X1.di ∧ X1.di ≤ 90001 := by omega
      clear hlx hdx
      have hlx := hlx2
      have hdx := hdx2
      clear hlx2 hdx2
      have hla : la.length ≤ 30 := by rw [HI.out.len]; omega
      obtain ⟨t0, t1, t2, t3, t4, t5, t6, t7, t8, t9, t10, t11, t12, t13, t14, t15, td, ts, tw, tf, tl⟩ := HI.out.rm.rc
      obtain ⟨n0, n1, n2, n3, n4, n5, n6, nl⟩ := HI.out.mc
      simp only at n0 n1 n2 n3 n4 n5 n6
      clear hst
      go_upto_region 4 with fail
      go_cut [31] from 20 to 31 (fun ug w' => ∃ g : Bool, ug = .bool g ∧ Hid (g = (decide (0 < (X1.di : Int)) && chc 1 2 X1.s) ∧ RI w w' b r d c ⟨m0, m1, m2, m3, m4, m5, m6⟩ (g2 X1) A cp la))
      case first =>
        by_cases hd : 0 < (X1.di : Int)
        · have HBB := hid (show g2 X1 = X1.draw 2 by unfold g2; rw [if_pos hd])
          have HDF := hid (decide_eq_true hd)
          go_wp2_with (
            go_at_call 15
            (with_reducible refine (dchance_any _ r _ _ _ HI.out.rm.rng (by omega)).mono ?_)
            rintro e b0 ⟨rfl, hg9, hk9⟩
            have HI2 := hid (HI.out.draw hg9 hk9)
            clear hg9 hk9 HI
            have HI := HI2
            clear HI2
            clear t0 t1 t2 t3 t4 t5 t6 t7 t8 t9 t10 t11 t12 t13 t14 t15 td ts tw tf tl n0 n1 n2 n3 n4 n5 n6 nl
            obtain ⟨t0, t1, t2, t3, t4, t5, t6, t7, t8, t9, t10, t11, t12, t13, t14, t15, td, ts, tw, tf, tl⟩ := HI.out.rm.rc
            obtain ⟨n0, n1, n2, n3, n4, n5, n6, nl⟩ := HI.out.mc
            simp only at n0 n1 n2 n3 n4 n5 n6)
          go_meet
          exact ⟨_, rfl, hid ⟨by rw [HDF.out, Bool.true_and], by rw [HBB.out]; exact HI.out⟩⟩
        · have HBB := hid (show g2 X1 = X1 by unfold g2; rw [if_neg hd])
          have hd2 : (X1.di : Int) ≤ 0 := by omega
          have HDF := hid (decide_eq_false hd)
          clear hd
          go_wp2_with fail
          go_meet
          exact ⟨_, rfl, hid ⟨by rw [HDF.out, Bool.false_and], by rw [HBB.out]; exact HI.out⟩⟩
      case rest =>
        obtain ⟨g, rfl, hG⟩ := hcut
        obtain ⟨hg, hI⟩ := hG.out
        clear hG HI
        clear t0 t1 t2 t3 t4 t5 t6 t7 t8 t9 t10 t11 t12 t13 t14 t15 td ts tw tf tl n0 n1 n2 n3 n4 n5 n6 nl
        have HI := hid hI
        clear hI
        have HGT := hid (b2M_gate X1)
        rw [← hg] at HGT
        have hyl : (g2 X1).l = X1.l ∧ (g2 X1).di = X1.di := g2_len X1
        have HPOS := hid (show g = true → 0 < (X1.di : Int) from fun e => by rw [hg] at e; simp at e; omega)
        have hst := (b2M_stp c X1 : Stp c _ _ (b2M X1)).len
        clear hg
        generalize g2 X1 = Y1 at *
        have hYl : Y1.l.length ≤ 30 := by rw [hyl.1]; omega
        have HYD := hid hyl
        have hYd : Y1.di ≤ 90030 := by rw [hyl.2]; omega
        clear hyl
        obtain ⟨t0, t1, t2, t3, t4, t5, t6, t7, t8, t9, t10, t11, t12, t13, t14, t15, td, ts, tw, tf, tl⟩ := HI.out.rm.rc
        obtain ⟨n0, n1, n2, n3, n4, n5, n6, nl⟩ := HI.out.mc
        simp only at n0 n1 n2 n3 n4 n5 n6
        go_upto_if 31 with fail
        go_cut [5, 6] from 32 to 52 (fun u5 u6 w' => Hid (RI.Ex w w' b r d c ⟨m0, m1, m2, m3, m4, m5, m6⟩ (b2M X1) u5))
        case first =>
          cases g
          · have HBB := hid (show b2M X1 = Y1 from HGT.out.trans (if_neg (by simp)))
            go_wp2_with fail
            go_meet
            exact hid ⟨_, _, _, rfl, by rw [HBB.out]; exact HI.out⟩
          · have HBB := hid (HGT.out.trans (if_pos rfl))
            have hp := HPOS.out rfl
            rw [← HYD.out.2] at hp
            clear HGT HPOS
            obtain ⟨wa, hwa⟩ : ∃ v, v = wc := ⟨_, rfl⟩
            subst hwa
            have HC1 := hid (fun W (hs : Same wa W) => roll_any W r _ Y1.di (HI.out.same hs).rm.rng (by omega))
            have HRN := hid HI.out.rm.rc
            obtain ⟨hc0, hc1⟩ := roll_in Y1.di Y1.s (by omega)
            have HWR := hid (IntWalk.i64_in (1 + roll Y1.di Y1.s) (by omega))
            have hblt : b < w.heap.size ∧ r < w.heap.size ∧ d < w.heap.size := HI.out.lt
            have hwa0 : w.heap.size ≤ wa.heap.size := HI.out.kp.size
            go_upto_region 5 with fail
            go_cut [6] from 32 to 42 (fun uz w' => ∃ ab : Nat, uz = .pointer (some ⟨ab, 0, none⟩) ∧ Hid (wa.heap.size ≤ ab ∧ Blk w' ab 59 #[.int .i64 2, .int .i64 0, .int .i64 0, .int .i64 (1 + roll Y1.di Y1.s), .int .i64 0, .int .i64 0, .slice none 0 0, .slice none 0 0] ∧ Gn w' 33 r (aft Y1.di Y1.s) ∧ Keep (· = r) wa w'))
            case first =>
              go_region_held3 (fun W => W.cell? ⟨b, 0, none⟩ = some (.pointer (some ⟨r, 0, none⟩)) ∧ W.cell? ⟨b, 16, none⟩ = some (.int .i64 Y1.di))
                (first | with_reducible exact ⟨t0, td⟩ | with_reducible exact HS.out | (with_reducible refine ⟨(cell_put8 hne1 0).trans z0, (cell_put8 hne1 16).trans z1⟩) | go_keep)
                (first
                  | (
                    go_at_call 13
                    (with_reducible refine (HC1.out _ (by first | with_reducible exact Keep.refl _ _ | with_reducible exact (Keep.refl _ _).drew | with_reducible exact (Keep.refl _ _).alloc _ | with_reducible exact ((Keep.refl _ _).alloc _).drew)).mono ?_)
                    rintro e w2 ⟨rfl, hg9, hk9⟩
                    have hkk : Keep (· = r) wa w2 := by
                      first
                        | with_reducible exact hk9
                        | with_reducible exact (Keep.refl _ _).drew.trans hk9 (fun _ _ e => e)
                        | with_reducible exact ((Keep.refl _ _).alloc _).trans hk9 (fun _ _ e => e)
                        | with_reducible exact ((Keep.refl _ _).alloc _).drew.trans hk9 (fun _ _ e => e)
                    have HM2 := hid (HI.out.draws hg9 hkk)
                    have HK2 := hid hkk
                    have HG2 := hid hg9
                    have hf1 : ¬ (wa.heap.size = r) := by omega
                    try (with_reducible have HQ := hid ((Blk.made wa 59 #[.int .i64 0, .int .i64 0, .int .i64 0, .int .i64 0, .int .i64 0, .int .i64 0, .slice none 0 0, .slice none 0 0]).drew.keep hk9 hf1))
                    clear hf1
                    have HS := hid (show w2.cell? ⟨b, 0, none⟩ = some (.pointer (some ⟨r, 0, none⟩)) ∧ w2.cell? ⟨b, 16, none⟩ = some (.int .i64 Y1.di) from ⟨HM2.out.rm.rc.c0, HM2.out.rm.rc.c16⟩)
                    obtain ⟨z0, z1⟩ := HS.out
                    have blt := HM2.out.rm.rc.lt
                    have hne1 : b ≠ wa.heap.size := by omega
                    have hsz2 : wa.heap.size ≤ w2.heap.size := hkk.size
                    try have rq := HQ.out.free
                    try have rqlt := HQ.out.lt
                    try have rq0 := HQ.out.at_ 0
                    try have rq1 := HQ.out.at_ 1
                    try have rq2 := HQ.out.at_ 2
                    try have rq3 := HQ.out.at_ 3
                    try have rq4 := HQ.out.at_ 4
                    try have rq5 := HQ.out.at_ 5
                    try have rq6 := HQ.out.at_ 6
                    try have rq7 := HQ.out.at_ 7
                    clear hg9 hk9 hkk))
              rotate_left 1
              · go_wp2_with fail
                go_meet
                try simp only [HWR.out]
                have hp8 := Blk.put8 HQ.out (.int .i64 2) (.int .i64 0) (.int .i64 0) (.int .i64 (1 + roll Y1.di Y1.s)) (.int .i64 0) (.int .i64 0) (.slice none 0 0) (.slice none 0 0)
                exact ⟨_, rfl, hid ⟨Nat.le_refl _, hp8.1, HG2.out.keep hp8.2 (by omega), HK2.out.trans (hp8.2.wide (T := fun i => wa.heap.size ≤ i) (fun i _ e => by omega)) (fun i hi e => by omega)⟩⟩
              · go_wp2_with fail
                go_meet
                try simp only [HWR.out]
                exact ⟨_, rfl, hid ⟨hsz2, Blk.made _ _ _, HG2.out.keep ((Keep.refl (fun _ => False) _).alloc _) (fun f => f), HK2.out.alloc _⟩⟩
            case rest =>
              obtain ⟨ab, rfl, hcc⟩ := hcut
              obtain ⟨hab, hb1, hg1, hk1⟩ := hcc.out
              have HA := HI
              have HB := hid hb1
              have HGc := hid hg1
              have HKc := hid hk1
              clear hcc hb1 hg1 hk1 HC1 HRN HI
              clear t0 t1 t2 t3 t4 t5 t6 t7 t8 t9 t10 t11 t12 t13 t14 t15 td ts tw tf tl n0 n1 n2 n3 n4 n5 n6 nl
              have HI := hid (HA.out.draws HGc.out HKc.out)
              obtain ⟨t0, t1, t2, t3, t4, t5, t6, t7, t8, t9, t10, t11, t12, t13, t14, t15, td, ts, tw, tf, tl⟩ := HI.out.rm.rc
              obtain ⟨n0, n1, n2, n3, n4, n5, n6, nl⟩ := HI.out.mc
              simp only at n0 n1 n2 n3 n4 n5 n6
              have hb2 : ∀ s, 0 ≤ roll 3 s ∧ roll 3 s < 3 := fun s => roll_in 3 s (by omega)
              have HB2 := hid hb2
              clear hb2
              go_upto_region 7 with (
                go_at_call 13
                (with_reducible refine (roll_any _ r _ _ HGc.out (by omega)).mono ?_)
                rintro e v1 ⟨rfl, hg9, hk9⟩
                have HKc2 := hid (HKc.out.trans hk9 (fun _ _ e => e))
                have HGc2 := hid hg9
                have HBb := hid (HB.out.keep hk9 (fun e => by omega))
                clear hg9 hk9 HI HKc HGc HB
                have HKc := HKc2
                have HGc := HGc2
                have HB := HBb
                clear HKc2 HGc2 HBb
                obtain ⟨hv0, hv1⟩ := HB2.out (aft Y1.di Y1.s)
                have c1 := HB.out.at_ 2
                have f1 := HB.out.free 2
                have l1 := HB.out.lt
                clear t0 t1 t2 t3 t4 t5 t6 t7 t8 t9 t10 t11 t12 t13 t14 t15 td ts tw tf tl n0 n1 n2 n3 n4 n5 n6 nl)
              clear c1 f1 l1
              have HGm := hid (show roll 3 (Y1.draw Y1.di).s = roll 3 (aft Y1.di Y1.s) from rfl)
              rw [HGm.out] at HBB
              clear HGm
              generalize roll 3 (aft Y1.di Y1.s) = nn at *
              have hkp := (Keep.refl (· = ab) v1).put 2 (.int .i64 nn)
              have HKn := hid (HKc.out.trans (hkp.wide (T := fun i => wa.heap.size ≤ i) (fun i _ e => by omega)) (fun i hi e => by omega))
              have HGn := hid (HGc.out.keep hkp (fun e => by omega))
              have HBn := hid (HB.out.put 2 (.int .i64 nn))
              clear HKc HGc HB hkp
              generalize v1.setCell ⟨ab, 2, none⟩ (.int .i64 nn) = v2 at *
              have HI := hid (HA.out.draws HGn.out HKn.out)
              have bl := HBn.out.lt
              have e0 : v2.cell? ⟨ab, 0, none⟩ = some (.int .i64 2) := (HBn.out.at_ 0).trans rfl
              have e1 : v2.cell? ⟨ab, 1, none⟩ = some (.int .i64 0) := (HBn.out.at_ 1).trans rfl
              have e2 : v2.cell? ⟨ab, 2, none⟩ = some (.int .i64 nn) := (HBn.out.at_ 2).trans rfl
              have e3 : v2.cell? ⟨ab, 3, none⟩ = some (.int .i64 (1 + roll Y1.di Y1.s)) := (HBn.out.at_ 3).trans rfl
              have e4 : v2.cell? ⟨ab, 4, none⟩ = some (.int .i64 0) := (HBn.out.at_ 4).trans rfl
              have e5 : v2.cell? ⟨ab, 5, none⟩ = some (.int .i64 0) := (HBn.out.at_ 5).trans rfl
              have e6 : v2.cell? ⟨ab, 6, none⟩ = some (.slice none 0 0) := (HBn.out.at_ 6).trans rfl
              have e7 : v2.cell? ⟨ab, 7, none⟩ = some (.slice none 0 0) := (HBn.out.at_ 7).trans rfl
              go_wp2_with (
                at_builtin
                refine EAc.law2 (.tmp 49) (.tmp 51) (.slice A la.length cp) (some ⟨v2.heap.size, 0, none⟩) 1 1 rfl rfl rfl rfl 0 la.length (accells la) ((plA 2 0 nn (1 + roll Y1.di Y1.s) 0 0) : AC).cells (la.length + 1) (accells la ++ ((plA 2 0 nn (1 + roll Y1.di Y1.s) 0 0) : AC).cells) rfl rfl (HI.out.own.keep ((Keep.refl (fun _ => False) v2).alloc _) (fun _ _ _ f => f)) rfl (fun _ => ⟨_, rfl, src_new (w := v2) rfl⟩) (fun u hu => accells_one [(plA 2 0 nn (1 + roll Y1.di Y1.s) 0 0)] u (by simpa [accells] using hu)) (by omega) (by unfold maxLen; omega) (Nat.zero_le _) ?_
                intro A7 c7 v3 ho7 hg7 hw7
                have HI2 := hid (HI.out.push ((Keep.refl (fun _ => False) v2).alloc _) (plA 2 0 nn (1 + roll Y1.di Y1.s) 0 0) (AcK.plain _ _ _ _ _ _ _ _) ho7 hg7 hw7 (plA_val _ _ _ _ _ _))
                clear ho7 hg7 hw7 HI
                have HI := HI2
                clear HI2)
              go_meet
              exact hid ⟨A7, c7, la ++ [plA 2 0 nn (1 + roll Y1.di Y1.s) 0 0], by simp, by rw [HBB.out]; exact HI.out⟩
        case rest =>
          clear HGT HPOS HYD hYl hYd
          obtain ⟨A, cp, la, hu, hI⟩ := hcut.out
          subst hu
          clear hcut HI
          clear t0 t1 t2 t3 t4 t5 t6 t7 t8 t9 t10 t11 t12 t13 t14 t15 td ts tw tf tl n0 n1 n2 n3 n4 n5 n6 nl
          have HI := hid hI
          clear hI
          generalize b2M X1 = X2 at *
          have hlx2 : X2.l.length ≤ 3 := by omega
          have hdx2 : 0 ≤ X2.di ∧ X2.di ≤ 90002 := by omega
          clear hlx hdx
          have hlx := hlx2
          have hdx := hdx2
          clear hlx2 hdx2
          have hla : la.length ≤ 30 := by rw [HI.out.len]; omega
          obtain ⟨t0, t1, t2, t3, t4, t5, t6, t7, t8, t9, t10, t11, t12, t13, t14, t15, td, ts, tw, tf, tl⟩ := HI.out.rm.rc
          obtain ⟨n0, n1, n2, n3, n4, n5, n6, nl⟩ := HI.out.mc
          simp only at n0 n1 n2 n3 n4 n5 n6
          clear hst
          go_upto_region 8 with fail
          go_cut [64] from 53 to 64 (fun ug w' => ∃ g : Bool, ug = .bool g ∧ Hid (g = (decide (0 < (X2.di : Int)) && chc 1 20 X2.s) ∧ RI w w' b r d c ⟨m0, m1, m2, m3, m4, m5, m6⟩ (g20 X2) A cp la))
          case first =>
            by_cases hd : 0 < (X2.di : Int)
            · have HBB := hid (show g20 X2 = X2.draw 20 by unfold g20; rw [if_pos hd])
              have HDF := hid (decide_eq_true hd)
              go_wp2_with (
                go_at_call 15
                (with_reducible refine (dchance_any _ r _ _ _ HI.out.rm.rng (by omega)).mono ?_)
                rintro e c0 ⟨rfl, hg9, hk9⟩
                have HI2 := hid (HI.out.draw hg9 hk9)
                clear hg9 hk9 HI
                have HI := HI2
                clear HI2
                clear t0 t1 t2 t3 t4 t5 t6 t7 t8 t9 t10 t11 t12 t13 t14 t15 td ts tw tf tl n0 n1 n2 n3 n4 n5 n6 nl
                obtain ⟨t0, t1, t2, t3, t4, t5, t6, t7, t8, t9, t10, t11, t12, t13, t14, t15, td, ts, tw, tf, tl⟩ := HI.out.rm.rc
                obtain ⟨n0, n1, n2, n3, n4, n5, n6, nl⟩ := HI.out.mc
                simp only at n0 n1 n2 n3 n4 n5 n6)
              go_meet
              exact ⟨_, rfl, hid ⟨by rw [HDF.out, Bool.true_and], by rw [HBB.out]; exact HI.out⟩⟩
            · have HBB := hid (show g20 X2 = X2 by unfold g20; rw [if_neg hd])
              have hd2 : (X2.di : Int) ≤ 0 := by omega
              have HDF := hid (decide_eq_false hd)
              clear hd
              go_wp2_with fail
              go_meet
              exact ⟨_, rfl, hid ⟨by rw [HDF.out, Bool.false_and], by rw [HBB.out]; exact HI.out⟩⟩
          case rest =>
            obtain ⟨g, rfl, hG⟩ := hcut
            obtain ⟨hg, hI⟩ := hG.out
            clear hG HI
            clear t0 t1 t2 t3 t4 t5 t6 t7 t8 t9 t10 t11 t12 t13 t14 t15 td ts tw tf tl n0 n1 n2 n3 n4 n5 n6 nl
            have HI := hid hI
            clear hI
            have HGT := hid (b3M_gate X2)
            rw [← hg] at HGT
            have hyl : (g20 X2).l = X2.l ∧ (g20 X2).di = X2.di := g20_len X2
            have HPOS := hid (show g = true → 0 < (X2.di : Int) from fun e => by rw [hg] at e; simp at e; omega)
            have hst := (b3M_stp c X2 : Stp c _ _ (b3M X2)).len
            clear hg
            generalize g20 X2 = Y2 at *
            have hYl : Y2.l.length ≤ 30 := by rw [hyl.1]; omega
            have HYD := hid hyl
            have hYd : Y2.di ≤ 90030 := by rw [hyl.2]; omega
            clear hyl
            obtain ⟨t0, t1, t2, t3, t4, t5, t6, t7, t8, t9, t10, t11, t12, t13, t14, t15, td, ts, tw, tf, tl⟩ := HI.out.rm.rc
            obtain ⟨n0, n1, n2, n3, n4, n5, n6, nl⟩ := HI.out.mc
            simp only at n0 n1 n2 n3 n4 n5 n6
            go_upto_if 64 with fail
            go_cut [5] from 65 to 78 (fun u5 w' => Hid (RI.Ex w w' b r d c ⟨m0, m1, m2, m3, m4, m5, m6⟩ (b3M X2) u5))
            case first =>
              cases g
              · have HBB := hid (show b3M X2 = Y2 from HGT.out.trans (if_neg (by simp)))
                go_wp2_with fail
                go_meet
                exact hid ⟨_, _, _, rfl, by rw [HBB.out]; exact HI.out⟩
              · have HBB := hid (HGT.out.trans (if_pos rfl))
                have hp := HPOS.out rfl
                rw [← HYD.out.2] at hp
                clear HGT HPOS
                obtain ⟨wa, hwa⟩ : ∃ v, v = wc := ⟨_, rfl⟩
                subst hwa
                have HC1 := hid (fun W (hs : Same wa W) => roll_any W r _ Y2.di (HI.out.same hs).rm.rng (by omega))
                obtain ⟨hc0, hc1⟩ := roll_in Y2.di Y2.s (by omega)
                have HWR := hid (IntWalk.i64_in (1 + roll Y2.di Y2.s) (by omega))
                go_upto_region 9 with fail
                go_region_held3 (fun W => W.cell? ⟨b, 0, none⟩ = some (.pointer (some ⟨r, 0, none⟩)) ∧ W.cell? ⟨b, 16, none⟩ = some (.int .i64 Y2.di))
                  (first | with_reducible exact ⟨t0, td⟩ | with_reducible exact HS.out | with_reducible exact HS3.out | go_keep)
                  (first
                    | (
                      go_at_call 13
                      (with_reducible refine (HC1.out _ (by first | with_reducible exact Keep.refl _ _ | with_reducible exact (Keep.refl _ _).drew)).mono ?_)
                      rintro e w2 ⟨rfl, hg9, hk9⟩
                      have hkk : Keep (· = r) wa w2 := by
                        first
                          | with_reducible exact hk9
                          | with_reducible exact (Keep.refl _ _).drew.trans hk9 (fun _ _ e => e)
                      have HI2 := hid (HI.out.draw hg9 hkk)
                      have HS := hid (show w2.cell? ⟨b, 0, none⟩ = some (.pointer (some ⟨r, 0, none⟩)) ∧ w2.cell? ⟨b, 16, none⟩ = some (.int .i64 Y2.di) from ⟨HI2.out.rm.rc.c0, HI2.out.rm.rc.c16⟩)
                      obtain ⟨z0, z1⟩ := HS.out
                      have blt := HI2.out.rm.rc.lt
                      clear hg9 hk9 hkk)
                    | (
                      refine EAc.step2 rfl (.tmp 65) (.tmp 77) rfl (.slice A la.length cp) (some ⟨w2.heap.size, 0, none⟩) 1 1 rfl rfl 0 la.length (accells la) ((plA 3 0 0 (IntKind.i64.wrap (1 + roll Y2.di Y2.s)) 0 0) : AC).cells (la.length + 1) (accells la ++ ((plA 3 0 0 (IntKind.i64.wrap (1 + roll Y2.di Y2.s)) 0 0) : AC).cells) rfl rfl (HI2.out.own.keep ((Keep.refl (fun _ => False) w2).alloc _) (fun _ _ _ f => f)) rfl (fun _ => ⟨_, rfl, src_new (w := w2) rfl⟩) (fun u hu => accells_one [(plA 3 0 0 (IntKind.i64.wrap (1 + roll Y2.di Y2.s)) 0 0)] u (by simpa [accells] using hu)) (by omega) (by unfold maxLen; omega) (Nat.zero_le _) ?_
                      intro A7 c7 w7 ho7 hg7 hw7
                      have HI3 := hid (HI2.out.push ((Keep.refl (fun _ => False) w2).alloc _) (plA 3 0 0 (IntKind.i64.wrap (1 + roll Y2.di Y2.s)) 0 0) (AcK.plain _ _ _ _ _ _ _ _) ho7 hg7 hw7 (plA_val _ _ _ _ _ _))
                      have HS3 := hid (show w7.cell? ⟨b, 0, none⟩ = some (.pointer (some ⟨r, 0, none⟩)) ∧ w7.cell? ⟨b, 16, none⟩ = some (.int .i64 Y2.di) from ⟨HI3.out.rm.rc.c0, HI3.out.rm.rc.c16⟩)
                      clear ho7 hg7 hw7))
                go_wp2_with fail
                go_meet
                have hfin := HI3.out
                simp only [HWR.out] at hfin
                exact hid ⟨A7, c7, la ++ [(plA 3 0 0 ((1 + roll Y2.di Y2.s)) 0 0)], by simp, by rw [HBB.out]; exact hfin⟩
            case rest =>
              clear HGT HPOS HYD hYl hYd
              obtain ⟨A, cp, la, hu, hI⟩ := hcut.out
              subst hu
              clear hcut HI
              clear t0 t1 t2 t3 t4 t5 t6 t7 t8 t9 t10 t11 t12 t13 t14 t15 td ts tw tf tl n0 n1 n2 n3 n4 n5 n6 nl
              have HI := hid hI
              clear hI
              generalize b3M X2 = X3 at *
              have hlx2 : X3.l.length ≤ 4 := by omega
              have hdx2 : 0 ≤ X3.di ∧ X3.di ≤ 90003 := by omega
              clear hlx hdx
              have hlx := hlx2
              have hdx := hdx2
              clear hlx2 hdx2
              have hla : la.length ≤ 30 := by rw [HI.out.len]; omega
              obtain ⟨t0, t1, t2, t3, t4, t5, t6, t7, t8, t9, t10, t11, t12, t13, t14, t15, td, ts, tw, tf, tl⟩ := HI.out.rm.rc
              obtain ⟨n0, n1, n2, n3, n4, n5, n6, nl⟩ := HI.out.mc
              simp only at n0 n1 n2 n3 n4 n5 n6
              clear hst
              go_wp2_with fail
              go_loopw [5, 7] (fun u i wr => ∃ k : Nat, k ≤ 3 ∧ i = .int .i64 k ∧ Hid (RI.Ex w wr b r d c ⟨m0, m1, m2, m3, m4, m5, m6⟩ (iterM k X3) u)) (fun _ i _ => 3 - (RowKit.intOf i).toNat)
              case atStart => exact ⟨0, by omega, rfl, hid ⟨A, cp, la, rfl, HI.out⟩⟩
              case round =>
                obtain ⟨k, hk, rfl, HR⟩ := hrel
                obtain ⟨A, cp, la, hu, hI⟩ := HR.out
                subst hu
                clear HI HR
                clear t0 t1 t2 t3 t4 t5 t6 t7 t8 t9 t10 t11 t12 t13 t14 t15 td ts tw tf tl n0 n1 n2 n3 n4 n5 n6 nl
                have HI := hid hI
                clear hI
                have hxl := Nat.le_of_eq (iterM_l X3 k)
                have hst := (iterM_stp c X3 3).len
                by_cases hlt : k < 3
                · have hk1 : (k : Int) < 3 := by omega
                  have HIT := hid (show iterM (k + 1) X3 = ((iterM k X3).draw 8).add ⟨5, 0, roll 8 (iterM k X3).s, 0, 0, 0, [], []⟩ from rfl)
                  clear hst
                  generalize iterM k X3 = xk at *
                  have hla : la.length ≤ 30 := by rw [HI.out.len]; omega
                  obtain ⟨t0, t1, t2, t3, t4, t5, t6, t7, t8, t9, t10, t11, t12, t13, t14, t15, td, ts, tw, tf, tl⟩ := HI.out.rm.rc
                  obtain ⟨n0, n1, n2, n3, n4, n5, n6, nl⟩ := HI.out.mc
                  simp only at n0 n1 n2 n3 n4 n5 n6
                  go_wp2_with (first
                    | (
                      go_at_call 13
                      (with_reducible refine (roll_any _ r _ _ HI.out.rm.rng (by omega)).mono ?_)
                      rintro e l1 ⟨rfl, hg9, hk9⟩
                      have HI2 := hid (HI.out.draw hg9 hk9)
                      clear hg9 hk9 HI
                      have HI := HI2
                      clear HI2
                      clear t0 t1 t2 t3 t4 t5 t6 t7 t8 t9 t10 t11 t12 t13 t14 t15 td ts tw tf tl n0 n1 n2 n3 n4 n5 n6 nl
                      obtain ⟨t0, t1, t2, t3, t4, t5, t6, t7, t8, t9, t10, t11, t12, t13, t14, t15, td, ts, tw, tf, tl⟩ := HI.out.rm.rc
                      obtain ⟨n0, n1, n2, n3, n4, n5, n6, nl⟩ := HI.out.mc
                      simp only at n0 n1 n2 n3 n4 n5 n6)
                    | (
                      at_builtin
                      refine EAc.law2 (.tmp 83) (.tmp 90) (.slice A la.length cp) (some ⟨l1.heap.size, 0, none⟩) 1 1 rfl rfl rfl rfl 0 la.length (accells la) ((plA 5 0 (roll 8 xk.s) 0 0 0) : AC).cells (la.length + 1) (accells la ++ ((plA 5 0 (roll 8 xk.s) 0 0 0) : AC).cells) rfl rfl (HI.out.own.keep ((Keep.refl (fun _ => False) l1).alloc _) (fun _ _ _ f => f)) rfl (fun _ => ⟨_, rfl, src_new (w := l1) rfl⟩) (fun u hu => accells_one [(plA 5 0 (roll 8 xk.s) 0 0 0)] u (by simpa [accells] using hu)) (by omega) (by unfold maxLen; omega) (Nat.zero_le _) ?_
                      intro A7 c7 l2 ho7 hg7 hw7
                      have HI2 := hid (HI.out.push ((Keep.refl (fun _ => False) l1).alloc _) (plA 5 0 (roll 8 xk.s) 0 0 0) (AcK.plain _ _ _ _ _ _ _ _) ho7 hg7 hw7 (plA_val _ _ _ _ _ _))
                      clear ho7 hg7 hw7 HI
                      have HI := HI2
                      clear HI2
                      clear t0 t1 t2 t3 t4 t5 t6 t7 t8 t9 t10 t11 t12 t13 t14 t15 td ts tw tf tl n0 n1 n2 n3 n4 n5 n6 nl))
                  go_roundw
                  case rel => exact ⟨k + 1, by omega, by go_num, hid ⟨A7, c7, la ++ [plA 5 0 (roll 8 xk.s) 0 0 0], by simp, by rw [HIT.out]; exact HI.out⟩⟩
                  case measure => simp [RowKit.intOf]; omega
                · obtain rfl : 3 = k := by omega
                  clear hxl
                  generalize iterM 3 X3 = X4 at *
                  have hlx2 : X4.l.length ≤ 7 := by omega
                  have hdx2 : 0 ≤ X4.di ∧ X4.di ≤ 90006 := by omega
                  clear hlx hdx hst
                  have hlx := hlx2
                  have hdx := hdx2
                  clear hlx2 hdx2
                  have hla : la.length ≤ 30 := by rw [HI.out.len]; omega
                  obtain ⟨t0, t1, t2, t3, t4, t5, t6, t7, t8, t9, t10, t11, t12, t13, t14, t15, td, ts, tw, tf, tl⟩ := HI.out.rm.rc
                  obtain ⟨n0, n1, n2, n3, n4, n5, n6, nl⟩ := HI.out.mc
                  simp only at n0 n1 n2 n3 n4 n5 n6
                  go_upto_if 95 with (
                    go_at_call 52
                    (with_reducible refine (roccurs_any HI.out.rm _).mono ?_)
                    rintro e d0 ⟨rfl, hg9, hk9⟩
                    have HI2 := hid (HI.out.draw hg9 hk9)
                    clear hg9 hk9 HI
                    have HI := HI2
                    clear HI2
                    clear t0 t1 t2 t3 t4 t5 t6 t7 t8 t9 t10 t11 t12 t13 t14 t15 td ts tw tf tl n0 n1 n2 n3 n4 n5 n6 nl
                    obtain ⟨t0, t1, t2, t3, t4, t5, t6, t7, t8, t9, t10, t11, t12, t13, t14, t15, td, ts, tw, tf, tl⟩ := HI.out.rm.rc
                    obtain ⟨n0, n1, n2, n3, n4, n5, n6, nl⟩ := HI.out.mc
                    simp only at n0 n1 n2 n3 n4 n5 n6)
                  go_cut [5] from 95 to 104 (fun u5 w' => Hid (RI.Ex w w' b r d c ⟨m0, m1, m2, m3, m4, m5, m6⟩ (evM 6 m1 X4) u5))
                  case first =>
                    cases hb : occ m1 X4.s
                    · have HBB := hid (show evM 6 m1 X4 = X4.draw 100 by rw [evM, hb]; rfl)
                      clear hb
                      go_wp2_with fail
                      go_meet
                      exact hid ⟨_, _, _, rfl, by rw [HBB.out]; exact HI.out⟩
                    · have HBB := hid (show evM 6 m1 X4 = ((X4.draw 100).draw 8).add ⟨6, 0, roll 8 (X4.draw 100).s, 0, 0, 0, [], []⟩ by rw [evM, hb]; rfl)
                      clear hb
                      go_wp2_with (first
                        | (
                          go_at_call 13
                          (with_reducible refine (roll_any _ r _ _ HI.out.rm.rng (by omega)).mono ?_)
                          rintro e d1 ⟨rfl, hg9, hk9⟩
                          have HI2 := hid (HI.out.draw hg9 hk9)
                          clear hg9 hk9 HI
                          have HI := HI2
                          clear HI2
                          clear t0 t1 t2 t3 t4 t5 t6 t7 t8 t9 t10 t11 t12 t13 t14 t15 td ts tw tf tl n0 n1 n2 n3 n4 n5 n6 nl
                          obtain ⟨t0, t1, t2, t3, t4, t5, t6, t7, t8, t9, t10, t11, t12, t13, t14, t15, td, ts, tw, tf, tl⟩ := HI.out.rm.rc
                          obtain ⟨n0, n1, n2, n3, n4, n5, n6, nl⟩ := HI.out.mc
                          simp only at n0 n1 n2 n3 n4 n5 n6)
                        | (
                          at_builtin
                          refine EAc.law2 (.tmp 96) (.tmp 103) (.slice A la.length cp) (some ⟨d1.heap.size, 0, none⟩) 1 1 rfl rfl rfl rfl 0 la.length (accells la) ((plA 6 0 (roll 8 (X4.draw 100).s) 0 0 0) : AC).cells (la.length + 1) (accells la ++ ((plA 6 0 (roll 8 (X4.draw 100).s) 0 0 0) : AC).cells) rfl rfl (HI.out.own.keep ((Keep.refl (fun _ => False) d1).alloc _) (fun _ _ _ f => f)) rfl (fun _ => ⟨_, rfl, src_new (w := d1) rfl⟩) (fun u hu => accells_one [(plA 6 0 (roll 8 (X4.draw 100).s) 0 0 0)] u (by simpa [accells] using hu)) (by omega) (by unfold maxLen; omega) (Nat.zero_le _) ?_
                          intro A7 c7 d2 ho7 hg7 hw7
                          have HI2 := hid (HI.out.push ((Keep.refl (fun _ => False) d1).alloc _) (plA 6 0 (roll 8 (X4.draw 100).s) 0 0 0) (AcK.plain _ _ _ _ _ _ _ _) ho7 hg7 hw7 (plA_val _ _ _ _ _ _))
                          clear ho7 hg7 hw7 HI
                          have HI := HI2
                          clear HI2
                          clear t0 t1 t2 t3 t4 t5 t6 t7 t8 t9 t10 t11 t12 t13 t14 t15 td ts tw tf tl n0 n1 n2 n3 n4 n5 n6 nl))
                      go_meet
                      exact hid ⟨A7, c7, la ++ [(plA 6 0 (roll 8 (X4.draw 100).s) 0 0 0)], by simp, by rw [HBB.out]; exact HI.out⟩
                  case rest =>
                    obtain ⟨A, cp, la, hu, hI⟩ := hcut.out
                    subst hu
                    clear hcut HI
                    clear t0 t1 t2 t3 t4 t5 t6 t7 t8 t9 t10 t11 t12 t13 t14 t15 td ts tw tf tl n0 n1 n2 n3 n4 n5 n6 nl
                    have HI := hid hI
                    clear hI
                    have hst := (evM_stp c X4 m1 6 (.inl rfl) : Stp c 1 X4 (evM 6 m1 X4)).len
                    generalize evM 6 m1 X4 = X5 at *
                    have hlx2 : X5.l.length ≤ 8 := by omega
                    have hdx2 : 0 ≤ X5.di ∧ X5.di ≤ 90007 := by omega
                    clear hlx hdx
                    have hlx := hlx2
                    have hdx := hdx2
                    clear hlx2 hdx2
                    have hla : la.length ≤ 30 := by rw [HI.out.len]; omega
                    obtain ⟨t0, t1, t2, t3, t4, t5, t6, t7, t8, t9, t10, t11, t12, t13, t14, t15, td, ts, tw, tf, tl⟩ := HI.out.rm.rc
                    obtain ⟨n0, n1, n2, n3, n4, n5, n6, nl⟩ := HI.out.mc
                    simp only at n0 n1 n2 n3 n4 n5 n6
                    clear hst
                    go_upto_if 108 with (
                      go_at_call 52
                      (with_reducible refine (roccurs_any HI.out.rm _).mono ?_)
                      rintro e e0 ⟨rfl, hg9, hk9⟩
                      have HI2 := hid (HI.out.draw hg9 hk9)
                      clear hg9 hk9 HI
                      have HI := HI2
                      clear HI2
                      clear t0 t1 t2 t3 t4 t5 t6 t7 t8 t9 t10 t11 t12 t13 t14 t15 td ts tw tf tl n0 n1 n2 n3 n4 n5 n6 nl
                      obtain ⟨t0, t1, t2, t3, t4, t5, t6, t7, t8, t9, t10, t11, t12, t13, t14, t15, td, ts, tw, tf, tl⟩ := HI.out.rm.rc
                      obtain ⟨n0, n1, n2, n3, n4, n5, n6, nl⟩ := HI.out.mc
                      simp only at n0 n1 n2 n3 n4 n5 n6)
                    go_cut [5] from 108 to 117 (fun u5 w' => Hid (RI.Ex w w' b r d c ⟨m0, m1, m2, m3, m4, m5, m6⟩ (evM 7 m2 X5) u5))
                    case first =>
                      cases hb : occ m2 X5.s
                      · have HBB := hid (show evM 7 m2 X5 = X5.draw 100 by rw [evM, hb]; rfl)
                        clear hb
                        go_wp2_with fail
                        go_meet
                        exact hid ⟨_, _, _, rfl, by rw [HBB.out]; exact HI.out⟩
                      · have HBB := hid (show evM 7 m2 X5 = ((X5.draw 100).draw 8).add ⟨7, 0, roll 8 (X5.draw 100).s, 0, 0, 0, [], []⟩ by rw [evM, hb]; rfl)
                        clear hb
                        go_wp2_with (first
                          | (
                            go_at_call 13
                            (with_reducible refine (roll_any _ r _ _ HI.out.rm.rng (by omega)).mono ?_)
                            rintro e e1 ⟨rfl, hg9, hk9⟩
                            have HI2 := hid (HI.out.draw hg9 hk9)
                            clear hg9 hk9 HI
                            have HI := HI2
                            clear HI2
                            clear t0 t1 t2 t3 t4 t5 t6 t7 t8 t9 t10 t11 t12 t13 t14 t15 td ts tw tf tl n0 n1 n2 n3 n4 n5 n6 nl
                            obtain ⟨t0, t1, t2, t3, t4, t5, t6, t7, t8, t9, t10, t11, t12, t13, t14, t15, td, ts, tw, tf, tl⟩ := HI.out.rm.rc
                            obtain ⟨n0, n1, n2, n3, n4, n5, n6, nl⟩ := HI.out.mc
                            simp only at n0 n1 n2 n3 n4 n5 n6)
                          | (
                            at_builtin
                            refine EAc.law2 (.tmp 109) (.tmp 116) (.slice A la.length cp) (some ⟨e1.heap.size, 0, none⟩) 1 1 rfl rfl rfl rfl 0 la.length (accells la) ((plA 7 0 (roll 8 (X5.draw 100).s) 0 0 0) : AC).cells (la.length + 1) (accells la ++ ((plA 7 0 (roll 8 (X5.draw 100).s) 0 0 0) : AC).cells) rfl rfl (HI.out.own.keep ((Keep.refl (fun _ => False) e1).alloc _) (fun _ _ _ f => f)) rfl (fun _ => ⟨_, rfl, src_new (w := e1) rfl⟩) (fun u hu => accells_one [(plA 7 0 (roll 8 (X5.draw 100).s) 0 0 0)] u (by simpa [accells] using hu)) (by omega) (by unfold maxLen; omega) (Nat.zero_le _) ?_
                            intro A7 c7 e2 ho7 hg7 hw7
                            have HI2 := hid (HI.out.push ((Keep.refl (fun _ => False) e1).alloc _) (plA 7 0 (roll 8 (X5.draw 100).s) 0 0 0) (AcK.plain _ _ _ _ _ _ _ _) ho7 hg7 hw7 (plA_val _ _ _ _ _ _))
                            clear ho7 hg7 hw7 HI
                            have HI := HI2
                            clear HI2
                            clear t0 t1 t2 t3 t4 t5 t6 t7 t8 t9 t10 t11 t12 t13 t14 t15 td ts tw tf tl n0 n1 n2 n3 n4 n5 n6 nl))
                        go_meet
                        exact hid ⟨A7, c7, la ++ [(plA 7 0 (roll 8 (X5.draw 100).s) 0 0 0)], by simp, by rw [HBB.out]; exact HI.out⟩
                    case rest =>
                      obtain ⟨A, cp, la, hu, hI⟩ := hcut.out
                      subst hu
                      clear hcut HI
                      clear t0 t1 t2 t3 t4 t5 t6 t7 t8 t9 t10 t11 t12 t13 t14 t15 td ts tw tf tl n0 n1 n2 n3 n4 n5 n6 nl
                      have HI := hid hI
                      clear hI
                      have hst := (evM_stp c X5 m2 7 (.inr rfl) : Stp c 1 X5 (evM 7 m2 X5)).len
                      generalize evM 7 m2 X5 = X6 at *
                      have hlx2 : X6.l.length ≤ 9 := by omega
                      have hdx2 : 0 ≤ X6.di ∧ X6.di ≤ 90008 := by omega
                      clear hlx hdx
                      have hlx := hlx2
                      have hdx := hdx2
                      clear hlx2 hdx2
                      have hla : la.length ≤ 30 := by rw [HI.out.len]; omega
                      obtain ⟨t0, t1, t2, t3, t4, t5, t6, t7, t8, t9, t10, t11, t12, t13, t14, t15, td, ts, tw, tf, tl⟩ := HI.out.rm.rc
                      obtain ⟨n0, n1, n2, n3, n4, n5, n6, nl⟩ := HI.out.mc
                      simp only at n0 n1 n2 n3 n4 n5 n6
                      clear hst
                      go_upto_if 121 with (
                        go_at_call 52
                        (with_reducible refine (roccurs_any HI.out.rm _).mono ?_)
                        rintro e f0 ⟨rfl, hg9, hk9⟩
                        have HI2 := hid (HI.out.draw hg9 hk9)
                        clear hg9 hk9 HI
                        have HI := HI2
                        clear HI2
                        clear t0 t1 t2 t3 t4 t5 t6 t7 t8 t9 t10 t11 t12 t13 t14 t15 td ts tw tf tl n0 n1 n2 n3 n4 n5 n6 nl
                        obtain ⟨t0, t1, t2, t3, t4, t5, t6, t7, t8, t9, t10, t11, t12, t13, t14, t15, td, ts, tw, tf, tl⟩ := HI.out.rm.rc
                        obtain ⟨n0, n1, n2, n3, n4, n5, n6, nl⟩ := HI.out.mc
                        simp only at n0 n1 n2 n3 n4 n5 n6)
                      go_cut [5] from 121 to 126 (fun u5 w' => Hid (RI.Ex w w' b r d c ⟨m0, m1, m2, m3, m4, m5, m6⟩ (splitM (placesN c).toNat m3 X6) u5))
                      case first =>
                        cases hb : occ m3 X6.s
                        · have HBB := hid (show splitM (placesN c).toNat m3 X6 = X6.draw 100 by rw [splitM_part, hb]; rfl)
                          clear hb
                          go_wp2_with fail
                          go_meet
                          exact hid ⟨_, _, _, rfl, by rw [HBB.out]; exact HI.out⟩
                        · have HBB := hid (show splitM (placesN c).toNat m3 X6 = partM (placesN c).toNat (X6.draw 100) by rw [splitM_part, hb]; rfl)
                          clear hb
                          go_wp2_with (first
                            | (
                              go_at_call 54
                              (with_reducible refine (rparted_any HI.out.rm hc3 hc4 hu).mono ?_)
                              rintro e f1 ⟨a, x9, he, hy, hm9, ha9, hk9⟩
                              have HI2 := hid (HI.out.next hm9 (add_inj hy (partM_l1 _ _)) hk9)
                              have HA := hid (ha9.wide (Av' := fun i => i < w.heap.size ∨ A.map (·.block) = some i) (fun i _ hs => by
                                rcases hs with hs | hs
                                · have := HI.out.kp.size; omega
                                · exact HI.out.own.lt i (by rw [ownB]; exact hs)))
                              obtain ⟨kd, wh, nq, cl, ot, no, aS, acS, asr, aG, acG, agr⟩ := a
                              simp only [AC.cells] at he
                              subst he
                              have HY := hid hy
                              clear hy hm9 ha9 hk9 HI
                              have HI := HI2
                              clear HI2
                              clear t0 t1 t2 t3 t4 t5 t6 t7 t8 t9 t10 t11 t12 t13 t14 t15 td ts tw tf tl n0 n1 n2 n3 n4 n5 n6 nl
                              obtain ⟨t0, t1, t2, t3, t4, t5, t6, t7, t8, t9, t10, t11, t12, t13, t14, t15, td, ts, tw, tf, tl⟩ := HI.out.rm.rc
                              obtain ⟨n0, n1, n2, n3, n4, n5, n6, nl⟩ := HI.out.mc
                              simp only at n0 n1 n2 n3 n4 n5 n6)
                            | (
                              at_builtin
                              refine EAc.law2 (.tmp 122) (.tmp 125) (.slice A la.length cp) (some ⟨f1.heap.size, 0, none⟩) 1 1 rfl rfl rfl rfl 0 la.length (accells la) (⟨kd, wh, nq, cl, ot, no, aS, acS, asr, aG, acG, agr⟩ : AC).cells (la.length + 1) (accells la ++ (⟨kd, wh, nq, cl, ot, no, aS, acS, asr, aG, acG, agr⟩ : AC).cells) rfl rfl (HI.out.own.keep ((Keep.refl (fun _ => False) f1).alloc _) (fun _ _ _ f => f)) rfl (fun _ => ⟨_, rfl, src_new (w := f1) rfl⟩) (fun u hu => accells_one [⟨kd, wh, nq, cl, ot, no, aS, acS, asr, aG, acG, agr⟩] u (by simpa [accells] using hu)) (by omega) (by unfold maxLen; omega) (Nat.zero_le _) ?_
                              intro A7 c7 f2 ho7 hg7 hw7
                              have HI2 := hid (HI.out.push ((Keep.refl (fun _ => False) f1).alloc _) ⟨kd, wh, nq, cl, ot, no, aS, acS, asr, aG, acG, agr⟩ HA.out ho7 hg7 hw7 rfl)
                              clear ho7 hg7 hw7 HI
                              have HI := HI2
                              clear HI2
                              clear t0 t1 t2 t3 t4 t5 t6 t7 t8 t9 t10 t11 t12 t13 t14 t15 td ts tw tf tl n0 n1 n2 n3 n4 n5 n6 nl))
                          go_meet
                          exact hid ⟨A7, c7, la ++ [⟨kd, wh, nq, cl, ot, no, aS, acS, asr, aG, acG, agr⟩], by simp, by rw [HBB.out, HY.out]; exact HI.out⟩
                      case rest =>
                        obtain ⟨A, cp, la, hu, hI⟩ := hcut.out
                        subst hu
                        clear hcut HI
                        clear t0 t1 t2 t3 t4 t5 t6 t7 t8 t9 t10 t11 t12 t13 t14 t15 td ts tw tf tl n0 n1 n2 n3 n4 n5 n6 nl
                        have HI := hid hI
                        clear hI
                        have hst := (splitM_stp c X6 m3 : Stp c 1 X6 (splitM (placesN c).toNat m3 X6)).len
                        generalize splitM (placesN c).toNat m3 X6 = X7 at *
                        have hlx2 : X7.l.length ≤ 10 := by omega
                        have hdx2 : 0 ≤ X7.di ∧ X7.di ≤ 90009 := by omega
                        clear hlx hdx
                        have hlx := hlx2
                        have hdx := hdx2
                        clear hlx2 hdx2
                        have hla : la.length ≤ 30 := by rw [HI.out.len]; omega
                        obtain ⟨t0, t1, t2, t3, t4, t5, t6, t7, t8, t9, t10, t11, t12, t13, t14, t15, td, ts, tw, tf, tl⟩ := HI.out.rm.rc
                        obtain ⟨n0, n1, n2, n3, n4, n5, n6, nl⟩ := HI.out.mc
                        simp only at n0 n1 n2 n3 n4 n5 n6
                        clear hst
                        go_upto_if 130 with (
                          go_at_call 52
                          (with_reducible refine (roccurs_any HI.out.rm _).mono ?_)
                          rintro e g0 ⟨rfl, hg9, hk9⟩
                          have HI2 := hid (HI.out.draw hg9 hk9)
                          clear hg9 hk9 HI
                          have HI := HI2
                          clear HI2
                          clear t0 t1 t2 t3 t4 t5 t6 t7 t8 t9 t10 t11 t12 t13 t14 t15 td ts tw tf tl n0 n1 n2 n3 n4 n5 n6 nl
                          obtain ⟨t0, t1, t2, t3, t4, t5, t6, t7, t8, t9, t10, t11, t12, t13, t14, t15, td, ts, tw, tf, tl⟩ := HI.out.rm.rc
                          obtain ⟨n0, n1, n2, n3, n4, n5, n6, nl⟩ := HI.out.mc
                          simp only at n0 n1 n2 n3 n4 n5 n6)
                        go_cut [5] from 130 to 135 (fun u5 w' => Hid (RI.Ex w w' b r d c ⟨m0, m1, m2, m3, m4, m5, m6⟩ (f1M c.cen m4 X7) u5))
                        case first =>
                          cases hb : occ m4 X7.s
                          · have HBB := hid (show f1M c.cen m4 X7 = X7.draw 100 by rw [f1M, hb]; rfl)
                            clear hb
                            go_wp2_with fail
                            go_meet
                            exact hid ⟨_, _, _, rfl, by rw [HBB.out]; exact HI.out⟩
                          · have HBB := hid (show f1M c.cen m4 X7 = crashM (roll c.cen (X7.draw 100).s).toNat ((X7.draw 100).draw c.cen) by rw [f1M, hb]; rfl)
                            clear hb
                            go_wp2_with (first
                              | (
                                go_at_call 55
                                (with_reducible refine (rcrash_any HI.out.rm hc3 hc4).mono ?_)
                                rintro e g1 ⟨a, x9, he, hy, hm9, ha9, hk9⟩
                                have HI2 := hid (HI.out.next hm9 (add_inj hy (crashM_l1 _ _)) hk9)
                                have HA := hid (ha9.wide (Av' := fun i => i < w.heap.size ∨ A.map (·.block) = some i) (fun i _ hs => by
                                  rcases hs with hs | hs
                                  · have := HI.out.kp.size; omega
                                  · exact HI.out.own.lt i (by rw [ownB]; exact hs)))
                                obtain ⟨kd, wh, nq, cl, ot, no, aS, acS, asr, aG, acG, agr⟩ := a
                                simp only [AC.cells] at he
                                subst he
                                have HY := hid hy
                                clear hy hm9 ha9 hk9 HI
                                have HI := HI2
                                clear HI2
                                clear t0 t1 t2 t3 t4 t5 t6 t7 t8 t9 t10 t11 t12 t13 t14 t15 td ts tw tf tl n0 n1 n2 n3 n4 n5 n6 nl
                                obtain ⟨t0, t1, t2, t3, t4, t5, t6, t7, t8, t9, t10, t11, t12, t13, t14, t15, td, ts, tw, tf, tl⟩ := HI.out.rm.rc
                                obtain ⟨n0, n1, n2, n3, n4, n5, n6, nl⟩ := HI.out.mc
                                simp only at n0 n1 n2 n3 n4 n5 n6)
                              | (
                                at_builtin
                                refine EAc.law2 (.tmp 131) (.tmp 134) (.slice A la.length cp) (some ⟨g1.heap.size, 0, none⟩) 1 1 rfl rfl rfl rfl 0 la.length (accells la) (⟨kd, wh, nq, cl, ot, no, aS, acS, asr, aG, acG, agr⟩ : AC).cells (la.length + 1) (accells la ++ (⟨kd, wh, nq, cl, ot, no, aS, acS, asr, aG, acG, agr⟩ : AC).cells) rfl rfl (HI.out.own.keep ((Keep.refl (fun _ => False) g1).alloc _) (fun _ _ _ f => f)) rfl (fun _ => ⟨_, rfl, src_new (w := g1) rfl⟩) (fun u hu => accells_one [⟨kd, wh, nq, cl, ot, no, aS, acS, asr, aG, acG, agr⟩] u (by simpa [accells] using hu)) (by omega) (by unfold maxLen; omega) (Nat.zero_le _) ?_
                                intro A7 c7 g2 ho7 hg7 hw7
                                have HI2 := hid (HI.out.push ((Keep.refl (fun _ => False) g1).alloc _) ⟨kd, wh, nq, cl, ot, no, aS, acS, asr, aG, acG, agr⟩ HA.out ho7 hg7 hw7 rfl)
                                clear ho7 hg7 hw7 HI
                                have HI := HI2
                                clear HI2
                                clear t0 t1 t2 t3 t4 t5 t6 t7 t8 t9 t10 t11 t12 t13 t14 t15 td ts tw tf tl n0 n1 n2 n3 n4 n5 n6 nl))
                            go_meet
                            exact hid ⟨A7, c7, la ++ [⟨kd, wh, nq, cl, ot, no, aS, acS, asr, aG, acG, agr⟩], by simp, by rw [HBB.out, HY.out]; exact HI.out⟩
                        case rest =>
                          obtain ⟨A, cp, la, hu, hI⟩ := hcut.out
                          subst hu
                          clear hcut HI
                          clear t0 t1 t2 t3 t4 t5 t6 t7 t8 t9 t10 t11 t12 t13 t14 t15 td ts tw tf tl n0 n1 n2 n3 n4 n5 n6 nl
                          have HI := hid hI
                          clear hI
                          have hst := (f1M_stp c X7 m4 hc3 : Stp c 1 X7 (f1M c.cen m4 X7)).len
                          generalize f1M c.cen m4 X7 = X8 at *
                          have hlx2 : X8.l.length ≤ 11 := by omega
                          have hdx2 : 0 ≤ X8.di ∧ X8.di ≤ 90010 := by omega
                          clear hlx hdx
                          have hlx := hlx2
                          have hdx := hdx2
                          clear hlx2 hdx2
                          have hla : la.length ≤ 30 := by rw [HI.out.len]; omega
                          obtain ⟨t0, t1, t2, t3, t4, t5, t6, t7, t8, t9, t10, t11, t12, t13, t14, t15, td, ts, tw, tf, tl⟩ := HI.out.rm.rc
                          obtain ⟨n0, n1, n2, n3, n4, n5, n6, nl⟩ := HI.out.mc
                          simp only at n0 n1 n2 n3 n4 n5 n6
                          clear hst
                          go_upto_region 22 with fail
                          go_cut [148] from 136 to 148 (fun ug w' => ∃ g : Bool, ug = .bool g ∧ Hid (g = (occ m5 X8.s && decide (0 < (c.edg.length : Int))) ∧ RI w w' b r d c ⟨m0, m1, m2, m3, m4, m5, m6⟩ (X8.draw 100) A cp la))
                          case first =>
                            cases hb : occ m5 X8.s
                            · have HBQ := hid hb
                              clear hb
                              go_wp2_with (
                                go_at_call 52
                                (with_reducible refine (roccurs_any HI.out.rm _).mono ?_)
                                rintro e h0 ⟨rfl, hg9, hk9⟩
                                have HI2 := hid (HI.out.draw hg9 hk9)
                                clear hg9 hk9 HI
                                have HI := HI2
                                clear HI2
                                clear t0 t1 t2 t3 t4 t5 t6 t7 t8 t9 t10 t11 t12 t13 t14 t15 td ts tw tf tl n0 n1 n2 n3 n4 n5 n6 nl
                                obtain ⟨t0, t1, t2, t3, t4, t5, t6, t7, t8, t9, t10, t11, t12, t13, t14, t15, td, ts, tw, tf, tl⟩ := HI.out.rm.rc
                                obtain ⟨n0, n1, n2, n3, n4, n5, n6, nl⟩ := HI.out.mc
                                simp only at n0 n1 n2 n3 n4 n5 n6
                                rw [HBQ.out])
                              go_meet
                              exact ⟨_, rfl, hid ⟨by rw [HBQ.out, Bool.false_and], HI.out⟩⟩
                            · have HBQ := hid hb
                              clear hb
                              by_cases hn : 0 < (c.edg.length : Int)
                              · have HDF := hid (decide_eq_true hn)
                                go_wp2_with (
                                  go_at_call 52
                                  (with_reducible refine (roccurs_any HI.out.rm _).mono ?_)
                                  rintro e h0 ⟨rfl, hg9, hk9⟩
                                  have HI2 := hid (HI.out.draw hg9 hk9)
                                  clear hg9 hk9 HI
                                  have HI := HI2
                                  clear HI2
                                  clear t0 t1 t2 t3 t4 t5 t6 t7 t8 t9 t10 t11 t12 t13 t14 t15 td ts tw tf tl n0 n1 n2 n3 n4 n5 n6 nl
                                  obtain ⟨t0, t1, t2, t3, t4, t5, t6, t7, t8, t9, t10, t11, t12, t13, t14, t15, td, ts, tw, tf, tl⟩ := HI.out.rm.rc
                                  obtain ⟨n0, n1, n2, n3, n4, n5, n6, nl⟩ := HI.out.mc
                                  simp only at n0 n1 n2 n3 n4 n5 n6
                                  rw [HBQ.out])
                                go_meet
                                exact ⟨_, rfl, hid ⟨by rw [HBQ.out, Bool.true_and]; first | with_reducible rfl | exact HDF.out.symm | exact decide_eq_decide.2 (by omega), HI.out⟩⟩
                              · have HDF := hid (decide_eq_false hn)
                                have hn2 : (c.edg.length : Int) ≤ 0 := by omega
                                clear hn
                                go_wp2_with (
                                  go_at_call 52
                                  (with_reducible refine (roccurs_any HI.out.rm _).mono ?_)
                                  rintro e h0 ⟨rfl, hg9, hk9⟩
                                  have HI2 := hid (HI.out.draw hg9 hk9)
                                  clear hg9 hk9 HI
                                  have HI := HI2
                                  clear HI2
                                  clear t0 t1 t2 t3 t4 t5 t6 t7 t8 t9 t10 t11 t12 t13 t14 t15 td ts tw tf tl n0 n1 n2 n3 n4 n5 n6 nl
                                  obtain ⟨t0, t1, t2, t3, t4, t5, t6, t7, t8, t9, t10, t11, t12, t13, t14, t15, td, ts, tw, tf, tl⟩ := HI.out.rm.rc
                                  obtain ⟨n0, n1, n2, n3, n4, n5, n6, nl⟩ := HI.out.mc
                                  simp only at n0 n1 n2 n3 n4 n5 n6
                                  rw [HBQ.out])
                                go_meet
                                exact ⟨_, rfl, hid ⟨by rw [HBQ.out, Bool.true_and]; first | with_reducible rfl | exact HDF.out.symm | exact decide_eq_decide.2 (by omega), HI.out⟩⟩
                          case rest =>
                            obtain ⟨g, rfl, hG⟩ := hcut
                            obtain ⟨hg, hI⟩ := hG.out
                            clear hG HI
                            clear t0 t1 t2 t3 t4 t5 t6 t7 t8 t9 t10 t11 t12 t13 t14 t15 td ts tw tf tl n0 n1 n2 n3 n4 n5 n6 nl
                            have HI := hid hI
                            clear hI
                            have HGT := hid (f2M_gate c.cen c.edg.length m5 X8)
                            rw [← hg] at HGT
                            have hyl : (X8.draw 100).l = X8.l ∧ (X8.draw 100).di = X8.di := ⟨rfl, rfl⟩
                            have HPOS := hid (show g = true → 0 < (c.edg.length : Int) from fun e => by rw [hg] at e; simp at e; omega)
                            have hst := (f2M_stp c X8 m5 hc3 : Stp c _ _ (f2M c.cen c.edg.length m5 X8)).len
                            clear hg
                            generalize X8.draw 100 = Y8 at *
                            have hYl : Y8.l.length ≤ 30 := by rw [hyl.1]; omega
                            have HYD := hid hyl
                            have hYd : Y8.di ≤ 90030 := by rw [hyl.2]; omega
                            clear hyl
                            obtain ⟨t0, t1, t2, t3, t4, t5, t6, t7, t8, t9, t10, t11, t12, t13, t14, t15, td, ts, tw, tf, tl⟩ := HI.out.rm.rc
                            obtain ⟨n0, n1, n2, n3, n4, n5, n6, nl⟩ := HI.out.mc
                            simp only at n0 n1 n2 n3 n4 n5 n6
                            go_upto_if 148 with fail
                            go_cut [5] from 149 to 153 (fun u5 w' => Hid (RI.Ex w w' b r d c ⟨m0, m1, m2, m3, m4, m5, m6⟩ (f2M c.cen c.edg.length m5 X8) u5))
                            case first =>
                              cases g
                              · have HBB := hid (show f2M c.cen c.edg.length m5 X8 = Y8 from HGT.out.trans (if_neg (by simp)))
                                go_wp2_with fail
                                go_meet
                                exact hid ⟨_, _, _, rfl, by rw [HBB.out]; exact HI.out⟩
                              · have HBB := hid (HGT.out.trans (if_pos rfl))
                                have hp := HPOS.out rfl
                                clear HGT HPOS
                                go_wp2_with (first
                                  | (
                                    go_at_call 56
                                    (with_reducible refine (rroad_any HI.out.rm hc3 hc4 hp HNE.out).mono ?_)
                                    rintro e h1 ⟨a, x9, he, hy, hm9, ha9, hk9⟩
                                    have HI2 := hid (HI.out.next hm9 (add_inj hy (roadM_l1 _ _ _)) hk9)
                                    have HA := hid (ha9.wide (Av' := fun i => i < w.heap.size ∨ A.map (·.block) = some i) (fun i _ hs => by
                                      rcases hs with hs | hs
                                      · have := HI.out.kp.size; omega
                                      · exact HI.out.own.lt i (by rw [ownB]; exact hs)))
                                    obtain ⟨kd, wh, nq, cl, ot, no, aS, acS, asr, aG, acG, agr⟩ := a
                                    simp only [AC.cells] at he
                                    subst he
                                    have HY := hid hy
                                    clear hy hm9 ha9 hk9 HI
                                    have HI := HI2
                                    clear HI2
                                    clear t0 t1 t2 t3 t4 t5 t6 t7 t8 t9 t10 t11 t12 t13 t14 t15 td ts tw tf tl n0 n1 n2 n3 n4 n5 n6 nl
                                    obtain ⟨t0, t1, t2, t3, t4, t5, t6, t7, t8, t9, t10, t11, t12, t13, t14, t15, td, ts, tw, tf, tl⟩ := HI.out.rm.rc
                                    obtain ⟨n0, n1, n2, n3, n4, n5, n6, nl⟩ := HI.out.mc
                                    simp only at n0 n1 n2 n3 n4 n5 n6)
                                  | (
                                    at_builtin
                                    refine EAc.law2 (.tmp 149) (.tmp 152) (.slice A la.length cp) (some ⟨h1.heap.size, 0, none⟩) 1 1 rfl rfl rfl rfl 0 la.length (accells la) (⟨kd, wh, nq, cl, ot, no, aS, acS, asr, aG, acG, agr⟩ : AC).cells (la.length + 1) (accells la ++ (⟨kd, wh, nq, cl, ot, no, aS, acS, asr, aG, acG, agr⟩ : AC).cells) rfl rfl (HI.out.own.keep ((Keep.refl (fun _ => False) h1).alloc _) (fun _ _ _ f => f)) rfl (fun _ => ⟨_, rfl, src_new (w := h1) rfl⟩) (fun u hu => accells_one [⟨kd, wh, nq, cl, ot, no, aS, acS, asr, aG, acG, agr⟩] u (by simpa [accells] using hu)) (by omega) (by unfold maxLen; omega) (Nat.zero_le _) ?_
                                    intro A7 c7 h2 ho7 hg7 hw7
                                    have HI2 := hid (HI.out.push ((Keep.refl (fun _ => False) h1).alloc _) ⟨kd, wh, nq, cl, ot, no, aS, acS, asr, aG, acG, agr⟩ HA.out ho7 hg7 hw7 rfl)
                                    clear ho7 hg7 hw7 HI
                                    have HI := HI2
                                    clear HI2
                                    clear t0 t1 t2 t3 t4 t5 t6 t7 t8 t9 t10 t11 t12 t13 t14 t15 td ts tw tf tl n0 n1 n2 n3 n4 n5 n6 nl))
                                go_meet
                                exact hid ⟨A7, c7, la ++ [⟨kd, wh, nq, cl, ot, no, aS, acS, asr, aG, acG, agr⟩], by simp, by rw [HBB.out, HY.out]; exact HI.out⟩
                            case rest =>
                              clear HGT HPOS HYD hYl hYd
                              obtain ⟨A, cp, la, hu, hI⟩ := hcut.out
                              subst hu
                              clear hcut HI
                              clear t0 t1 t2 t3 t4 t5 t6 t7 t8 t9 t10 t11 t12 t13 t14 t15 td ts tw tf tl n0 n1 n2 n3 n4 n5 n6 nl
                              have HI := hid hI
                              clear hI
                              generalize f2M c.cen c.edg.length m5 X8 = X9 at *
                              have hlx2 : X9.l.length ≤ 12 := by omega
                              have hdx2 : 0 ≤ X9.di ∧ X9.di ≤ 90011 := by omega
                              clear hlx hdx
                              have hlx := hlx2
                              have hdx := hdx2
                              clear hlx2 hdx2
                              have hla : la.length ≤ 30 := by rw [HI.out.len]; omega
                              obtain ⟨t0, t1, t2, t3, t4, t5, t6, t7, t8, t9, t10, t11, t12, t13, t14, t15, td, ts, tw, tf, tl⟩ := HI.out.rm.rc
                              obtain ⟨n0, n1, n2, n3, n4, n5, n6, nl⟩ := HI.out.mc
                              simp only at n0 n1 n2 n3 n4 n5 n6
                              clear hst
                              go_upto_region 24 with fail
                              go_cut [167] from 154 to 167 (fun ug w' => ∃ g : Bool, ug = .bool g ∧ Hid (g = (decide (0 < (c.uni.length : Int)) && chc 1 2 X9.s) ∧ RI w w' b r d c ⟨m0, m1, m2, m3, m4, m5, m6⟩ (gu c.uni.length X9) A cp la))
                              case first =>
                                by_cases hd : 0 < (c.uni.length : Int)
                                · have HBB := hid (show gu c.uni.length X9 = X9.draw 2 by unfold gu; rw [if_pos hd])
                                  have HDF := hid (decide_eq_true hd)
                                  go_wp2_with (
                                    go_at_call 15
                                    (with_reducible refine (dchance_any _ r _ _ _ HI.out.rm.rng (by omega)).mono ?_)
                                    rintro e i0 ⟨rfl, hg9, hk9⟩
                                    have HI2 := hid (HI.out.draw hg9 hk9)
                                    clear hg9 hk9 HI
                                    have HI := HI2
                                    clear HI2
                                    clear t0 t1 t2 t3 t4 t5 t6 t7 t8 t9 t10 t11 t12 t13 t14 t15 td ts tw tf tl n0 n1 n2 n3 n4 n5 n6 nl
                                    obtain ⟨t0, t1, t2, t3, t4, t5, t6, t7, t8, t9, t10, t11, t12, t13, t14, t15, td, ts, tw, tf, tl⟩ := HI.out.rm.rc
                                    obtain ⟨n0, n1, n2, n3, n4, n5, n6, nl⟩ := HI.out.mc
                                    simp only at n0 n1 n2 n3 n4 n5 n6)
                                  go_meet
                                  exact ⟨_, rfl, hid ⟨by rw [HDF.out, Bool.true_and], by rw [HBB.out]; exact HI.out⟩⟩
                                · have HBB := hid (show gu c.uni.length X9 = X9 by unfold gu; rw [if_neg hd])
                                  have hd2 : (c.uni.length : Int) ≤ 0 := by omega
                                  have HDF := hid (decide_eq_false hd)
                                  clear hd
                                  go_wp2_with fail
                                  go_meet
                                  exact ⟨_, rfl, hid ⟨by rw [HDF.out, Bool.false_and], by rw [HBB.out]; exact HI.out⟩⟩
                              case rest =>
                                obtain ⟨g, rfl, hG⟩ := hcut
                                obtain ⟨hg, hI⟩ := hG.out
                                clear hG HI
                                clear t0 t1 t2 t3 t4 t5 t6 t7 t8 t9 t10 t11 t12 t13 t14 t15 td ts tw tf tl n0 n1 n2 n3 n4 n5 n6 nl
                                have HI := hid hI
                                clear hI
                                have HGT := hid (c1M_gate c.uni.length X9)
                                rw [← hg] at HGT
                                have hyl : (gu c.uni.length X9).l = X9.l ∧ (gu c.uni.length X9).di = X9.di := gu_len _ X9
                                have HPOS := hid (show g = true → 0 < (c.uni.length : Int) from fun e => by rw [hg] at e; simp at e; omega)
                                have hst := (c1M_stp c X9 : Stp c _ _ (c1M c.uni.length X9)).len
                                clear hg
                                generalize gu c.uni.length X9 = Y9 at *
                                have hYl : Y9.l.length ≤ 30 := by rw [hyl.1]; omega
                                have HYD := hid hyl
                                have hYd : Y9.di ≤ 90030 := by rw [hyl.2]; omega
                                clear hyl
                                obtain ⟨t0, t1, t2, t3, t4, t5, t6, t7, t8, t9, t10, t11, t12, t13, t14, t15, td, ts, tw, tf, tl⟩ := HI.out.rm.rc
                                obtain ⟨n0, n1, n2, n3, n4, n5, n6, nl⟩ := HI.out.mc
                                simp only at n0 n1 n2 n3 n4 n5 n6
                                go_upto_if 167 with fail
                                go_cut [5] from 168 to 182 (fun u5 w' => Hid (RI.Ex w w' b r d c ⟨m0, m1, m2, m3, m4, m5, m6⟩ (c1M c.uni.length X9) u5))
                                case first =>
                                  cases g
                                  · have HBB := hid (show c1M c.uni.length X9 = Y9 from HGT.out.trans (if_neg (by simp)))
                                    go_wp2_with fail
                                    go_meet
                                    exact hid ⟨_, _, _, rfl, by rw [HBB.out]; exact HI.out⟩
                                  · have HBB := hid (HGT.out.trans (if_pos rfl))
                                    have hp := HPOS.out rfl
                                    clear HGT HPOS
                                    obtain ⟨wa, hwa⟩ : ∃ v, v = wc := ⟨_, rfl⟩
                                    subst hwa
                                    have HC1 := hid (fun W (hs : Same wa W) => roll_any W r _ c.uni.length (HI.out.same hs).rm.rng (by omega))
                                    obtain ⟨hc0, hc1⟩ := roll_in c.uni.length Y9.s (by omega)
                                    go_upto_region 25 with fail
                                    go_region_held3 (fun W => W.cell? ⟨b, 0, none⟩ = some (.pointer (some ⟨r, 0, none⟩)) ∧ W.cell? ⟨b, 4, none⟩ = some (.slice c.U c.uni.length c.cU))
                                      (first | with_reducible exact ⟨t0, t4⟩ | with_reducible exact HS.out | with_reducible exact HS3.out | go_keep)
                                      (first
                                        | (
                                          go_at_call 13
                                          (with_reducible refine (HC1.out _ (by first | with_reducible exact Keep.refl _ _ | with_reducible exact (Keep.refl _ _).drew)).mono ?_)
                                          rintro e w2 ⟨rfl, hg9, hk9⟩
                                          have hkk : Keep (· = r) wa w2 := by
                                            first
                                              | with_reducible exact hk9
                                              | with_reducible exact (Keep.refl _ _).drew.trans hk9 (fun _ _ e => e)
                                          have HI2 := hid (HI.out.draw hg9 hkk)
                                          have HS := hid (show w2.cell? ⟨b, 0, none⟩ = some (.pointer (some ⟨r, 0, none⟩)) ∧ w2.cell? ⟨b, 4, none⟩ = some (.slice c.U c.uni.length c.cU) from ⟨HI2.out.rm.rc.c0, HI2.out.rm.rc.c4⟩)
                                          obtain ⟨z0, z1⟩ := HS.out
                                          have blt := HI2.out.rm.rc.lt
                                          clear hg9 hk9 hkk)
                                        | (
                                          refine EAc.step2 rfl (.tmp 168) (.tmp 181) rfl (.slice A la.length cp) (some ⟨w2.heap.size, 0, none⟩) 1 1 rfl rfl 0 la.length (accells la) ((plA 12 (roll c.uni.length Y9.s) 0 0 0 0) : AC).cells (la.length + 1) (accells la ++ ((plA 12 (roll c.uni.length Y9.s) 0 0 0 0) : AC).cells) rfl rfl (HI2.out.own.keep ((Keep.refl (fun _ => False) w2).alloc _) (fun _ _ _ f => f)) rfl (fun _ => ⟨_, rfl, src_new (w := w2) rfl⟩) (fun u hu => accells_one [(plA 12 (roll c.uni.length Y9.s) 0 0 0 0)] u (by simpa [accells] using hu)) (by omega) (by unfold maxLen; omega) (Nat.zero_le _) ?_
                                          intro A7 c7 w7 ho7 hg7 hw7
                                          have HI3 := hid (HI2.out.push ((Keep.refl (fun _ => False) w2).alloc _) (plA 12 (roll c.uni.length Y9.s) 0 0 0 0) (AcK.plain _ _ _ _ _ _ _ _) ho7 hg7 hw7 (plA_val _ _ _ _ _ _))
                                          have HS3 := hid (show w7.cell? ⟨b, 0, none⟩ = some (.pointer (some ⟨r, 0, none⟩)) ∧ w7.cell? ⟨b, 4, none⟩ = some (.slice c.U c.uni.length c.cU) from ⟨HI3.out.rm.rc.c0, HI3.out.rm.rc.c4⟩)
                                          clear ho7 hg7 hw7))
                                    go_wp2_with fail
                                    go_meet
                                    have hfin := HI3.out
                                    exact hid ⟨A7, c7, la ++ [(plA 12 (roll c.uni.length Y9.s) 0 0 0 0)], by simp, by rw [HBB.out]; exact hfin⟩
                                case rest =>
                                  clear HGT HPOS HYD hYl hYd
                                  obtain ⟨A, cp, la, hu, hI⟩ := hcut.out
                                  subst hu
                                  clear hcut HI
                                  clear t0 t1 t2 t3 t4 t5 t6 t7 t8 t9 t10 t11 t12 t13 t14 t15 td ts tw tf tl n0 n1 n2 n3 n4 n5 n6 nl
                                  have HI := hid hI
                                  clear hI
                                  generalize c1M c.uni.length X9 = X10 at *
                                  have hlx2 : X10.l.length ≤ 13 := by omega
                                  have hdx2 : 0 ≤ X10.di ∧ X10.di ≤ 90012 := by omega
                                  clear hlx hdx
                                  have hlx := hlx2
                                  have hdx := hdx2
                                  clear hlx2 hdx2
                                  have hla : la.length ≤ 30 := by rw [HI.out.len]; omega
                                  obtain ⟨t0, t1, t2, t3, t4, t5, t6, t7, t8, t9, t10, t11, t12, t13, t14, t15, td, ts, tw, tf, tl⟩ := HI.out.rm.rc
                                  obtain ⟨n0, n1, n2, n3, n4, n5, n6, nl⟩ := HI.out.mc
                                  simp only at n0 n1 n2 n3 n4 n5 n6
                                  clear hst
                                  go_upto_region 26 with fail
                                  go_cut [195] from 183 to 195 (fun ug w' => ∃ g : Bool, ug = .bool g ∧ Hid (g = (occ m6 X10.s && decide (0 < (c.uni.length : Int))) ∧ RI w w' b r d c ⟨m0, m1, m2, m3, m4, m5, m6⟩ (X10.draw 100) A cp la))
                                  case first =>
                                    cases hb : occ m6 X10.s
                                    · have HBQ := hid hb
                                      clear hb
                                      go_wp2_with (
                                        go_at_call 52
                                        (with_reducible refine (roccurs_any HI.out.rm _).mono ?_)
                                        rintro e j0 ⟨rfl, hg9, hk9⟩
                                        have HI2 := hid (HI.out.draw hg9 hk9)
                                        clear hg9 hk9 HI
                                        have HI := HI2
                                        clear HI2
                                        clear t0 t1 t2 t3 t4 t5 t6 t7 t8 t9 t10 t11 t12 t13 t14 t15 td ts tw tf tl n0 n1 n2 n3 n4 n5 n6 nl
                                        obtain ⟨t0, t1, t2, t3, t4, t5, t6, t7, t8, t9, t10, t11, t12, t13, t14, t15, td, ts, tw, tf, tl⟩ := HI.out.rm.rc
                                        obtain ⟨n0, n1, n2, n3, n4, n5, n6, nl⟩ := HI.out.mc
                                        simp only at n0 n1 n2 n3 n4 n5 n6
                                        rw [HBQ.out])
                                      go_meet
                                      exact ⟨_, rfl, hid ⟨by rw [HBQ.out, Bool.false_and], HI.out⟩⟩
                                    · have HBQ := hid hb
                                      clear hb
                                      by_cases hn : 0 < (c.uni.length : Int)
                                      · have HDF := hid (decide_eq_true hn)
                                        go_wp2_with (
                                          go_at_call 52
                                          (with_reducible refine (roccurs_any HI.out.rm _).mono ?_)
                                          rintro e j0 ⟨rfl, hg9, hk9⟩
                                          have HI2 := hid (HI.out.draw hg9 hk9)
                                          clear hg9 hk9 HI
                                          have HI := HI2
                                          clear HI2
                                          clear t0 t1 t2 t3 t4 t5 t6 t7 t8 t9 t10 t11 t12 t13 t14 t15 td ts tw tf tl n0 n1 n2 n3 n4 n5 n6 nl
                                          obtain ⟨t0, t1, t2, t3, t4, t5, t6, t7, t8, t9, t10, t11, t12, t13, t14, t15, td, ts, tw, tf, tl⟩ := HI.out.rm.rc
                                          obtain ⟨n0, n1, n2, n3, n4, n5, n6, nl⟩ := HI.out.mc
                                          simp only at n0 n1 n2 n3 n4 n5 n6
                                          rw [HBQ.out])
                                        go_meet
                                        exact ⟨_, rfl, hid ⟨by rw [HBQ.out, Bool.true_and]; first | with_reducible rfl | exact HDF.out.symm | exact decide_eq_decide.2 (by omega), HI.out⟩⟩
                                      · have HDF := hid (decide_eq_false hn)
                                        have hn2 : (c.uni.length : Int) ≤ 0 := by omega
                                        clear hn
                                        go_wp2_with (
                                          go_at_call 52
                                          (with_reducible refine (roccurs_any HI.out.rm _).mono ?_)
                                          rintro e j0 ⟨rfl, hg9, hk9⟩
                                          have HI2 := hid (HI.out.draw hg9 hk9)
                                          clear hg9 hk9 HI
                                          have HI := HI2
                                          clear HI2
                                          clear t0 t1 t2 t3 t4 t5 t6 t7 t8 t9 t10 t11 t12 t13 t14 t15 td ts tw tf tl n0 n1 n2 n3 n4 n5 n6 nl
                                          obtain ⟨t0, t1, t2, t3, t4, t5, t6, t7, t8, t9, t10, t11, t12, t13, t14, t15, td, ts, tw, tf, tl⟩ := HI.out.rm.rc
                                          obtain ⟨n0, n1, n2, n3, n4, n5, n6, nl⟩ := HI.out.mc
                                          simp only at n0 n1 n2 n3 n4 n5 n6
                                          rw [HBQ.out])
                                        go_meet
                                        exact ⟨_, rfl, hid ⟨by rw [HBQ.out, Bool.true_and]; first | with_reducible rfl | exact HDF.out.symm | exact decide_eq_decide.2 (by omega), HI.out⟩⟩
                                  case rest =>
                                    obtain ⟨g, rfl, hG⟩ := hcut
                                    obtain ⟨hg, hI⟩ := hG.out
                                    clear hG HI
                                    clear t0 t1 t2 t3 t4 t5 t6 t7 t8 t9 t10 t11 t12 t13 t14 t15 td ts tw tf tl n0 n1 n2 n3 n4 n5 n6 nl
                                    have HI := hid hI
                                    clear hI
                                    have HGT := hid (c2M_gate c.uni.length m6 X10)
                                    rw [← hg] at HGT
                                    have hyl : (X10.draw 100).l = X10.l ∧ (X10.draw 100).di = X10.di := ⟨rfl, rfl⟩
                                    have HPOS := hid (show g = true → 0 < (c.uni.length : Int) from fun e => by rw [hg] at e; simp at e; omega)
                                    have hst := (c2M_stp c X10 m6 : Stp c _ _ (c2M c.uni.length m6 X10)).len
                                    clear hg
                                    generalize X10.draw 100 = Y10 at *
                                    have hYl : Y10.l.length ≤ 30 := by rw [hyl.1]; omega
                                    have HYD := hid hyl
                                    have hYd : Y10.di ≤ 90030 := by rw [hyl.2]; omega
                                    clear hyl
                                    obtain ⟨t0, t1, t2, t3, t4, t5, t6, t7, t8, t9, t10, t11, t12, t13, t14, t15, td, ts, tw, tf, tl⟩ := HI.out.rm.rc
                                    obtain ⟨n0, n1, n2, n3, n4, n5, n6, nl⟩ := HI.out.mc
                                    simp only at n0 n1 n2 n3 n4 n5 n6
                                    go_upto_if 195 with fail
                                    go_cut [5] from 196 to 210 (fun u5 w' => Hid (RI.Ex w w' b r d c ⟨m0, m1, m2, m3, m4, m5, m6⟩ (c2M c.uni.length m6 X10) u5))
                                    case first =>
                                      cases g
                                      · have HBB := hid (show c2M c.uni.length m6 X10 = Y10 from HGT.out.trans (if_neg (by simp)))
                                        go_wp2_with fail
                                        go_meet
                                        exact hid ⟨_, _, _, rfl, by rw [HBB.out]; exact HI.out⟩
                                      · have HBB := hid (HGT.out.trans (if_pos rfl))
                                        have hp := HPOS.out rfl
                                        clear HGT HPOS
                                        obtain ⟨wa, hwa⟩ : ∃ v, v = wc := ⟨_, rfl⟩
                                        subst hwa
                                        have HC1 := hid (fun W (hs : Same wa W) => roll_any W r _ c.uni.length (HI.out.same hs).rm.rng (by omega))
                                        obtain ⟨hc0, hc1⟩ := roll_in c.uni.length Y10.s (by omega)
                                        go_upto_region 27 with fail
                                        go_region_held3 (fun W => W.cell? ⟨b, 0, none⟩ = some (.pointer (some ⟨r, 0, none⟩)) ∧ W.cell? ⟨b, 4, none⟩ = some (.slice c.U c.uni.length c.cU))
                                          (first | with_reducible exact ⟨t0, t4⟩ | with_reducible exact HS.out | with_reducible exact HS3.out | go_keep)
                                          (first
                                            | (
                                              go_at_call 13
                                              (with_reducible refine (HC1.out _ (by first | with_reducible exact Keep.refl _ _ | with_reducible exact (Keep.refl _ _).drew)).mono ?_)
                                              rintro e w2 ⟨rfl, hg9, hk9⟩
                                              have hkk : Keep (· = r) wa w2 := by
                                                first
                                                  | with_reducible exact hk9
                                                  | with_reducible exact (Keep.refl _ _).drew.trans hk9 (fun _ _ e => e)
                                              have HI2 := hid (HI.out.draw hg9 hkk)
                                              have HS := hid (show w2.cell? ⟨b, 0, none⟩ = some (.pointer (some ⟨r, 0, none⟩)) ∧ w2.cell? ⟨b, 4, none⟩ = some (.slice c.U c.uni.length c.cU) from ⟨HI2.out.rm.rc.c0, HI2.out.rm.rc.c4⟩)
                                              obtain ⟨z0, z1⟩ := HS.out
                                              have blt := HI2.out.rm.rc.lt
                                              clear hg9 hk9 hkk)
                                            | (
                                              refine EAc.step2 rfl (.tmp 196) (.tmp 209) rfl (.slice A la.length cp) (some ⟨w2.heap.size, 0, none⟩) 1 1 rfl rfl 0 la.length (accells la) ((plA 13 (roll c.uni.length Y10.s) 0 0 0 0) : AC).cells (la.length + 1) (accells la ++ ((plA 13 (roll c.uni.length Y10.s) 0 0 0 0) : AC).cells) rfl rfl (HI2.out.own.keep ((Keep.refl (fun _ => False) w2).alloc _) (fun _ _ _ f => f)) rfl (fun _ => ⟨_, rfl, src_new (w := w2) rfl⟩) (fun u hu => accells_one [(plA 13 (roll c.uni.length Y10.s) 0 0 0 0)] u (by simpa [accells] using hu)) (by omega) (by unfold maxLen; omega) (Nat.zero_le _) ?_
                                              intro A7 c7 w7 ho7 hg7 hw7
                                              have HI3 := hid (HI2.out.push ((Keep.refl (fun _ => False) w2).alloc _) (plA 13 (roll c.uni.length Y10.s) 0 0 0 0) (AcK.plain _ _ _ _ _ _ _ _) ho7 hg7 hw7 (plA_val _ _ _ _ _ _))
                                              have HS3 := hid (show w7.cell? ⟨b, 0, none⟩ = some (.pointer (some ⟨r, 0, none⟩)) ∧ w7.cell? ⟨b, 4, none⟩ = some (.slice c.U c.uni.length c.cU) from ⟨HI3.out.rm.rc.c0, HI3.out.rm.rc.c4⟩)
                                              clear ho7 hg7 hw7))
                                        go_wp2_with fail
                                        go_meet
                                        have hfin := HI3.out
                                        exact hid ⟨A7, c7, la ++ [(plA 13 (roll c.uni.length Y10.s) 0 0 0 0)], by simp, by rw [HBB.out]; exact hfin⟩
                                    case rest =>
                                      clear HGT HPOS HYD hYl hYd
                                      obtain ⟨A, cp, la, hu, hI⟩ := hcut.out
                                      subst hu
                                      clear hcut HI
                                      clear t0 t1 t2 t3 t4 t5 t6 t7 t8 t9 t10 t11 t12 t13 t14 t15 td ts tw tf tl n0 n1 n2 n3 n4 n5 n6 nl
                                      have HI := hid hI
                                      clear hI
                                      generalize c2M c.uni.length m6 X10 = X11 at *
                                      have hlx2 : X11.l.length ≤ 14 := by omega
                                      have hdx2 : 0 ≤ X11.di ∧ X11.di ≤ 90013 := by omega
                                      clear hlx hdx
                                      have hlx := hlx2
                                      have hdx := hdx2
                                      clear hlx2 hdx2
                                      have hla : la.length ≤ 30 := by rw [HI.out.len]; omega
                                      obtain ⟨t0, t1, t2, t3, t4, t5, t6, t7, t8, t9, t10, t11, t12, t13, t14, t15, td, ts, tw, tf, tl⟩ := HI.out.rm.rc
                                      obtain ⟨n0, n1, n2, n3, n4, n5, n6, nl⟩ := HI.out.mc
                                      simp only at n0 n1 n2 n3 n4 n5 n6
                                      clear hst
                                      have HDf := hid (show chc 1 10 X11.s = false → c3M c.cen X11 = X11.draw 10 from fun hb => by rw [c3M, hb]; rfl)
                                      have HDt := hid (show chc 1 10 X11.s = true → c3M c.cen X11 = (((X11.draw 10).draw c.cen).draw 20).add ⟨17, roll c.cen (X11.draw 10).s, 0, 1 + roll 20 ((X11.draw 10).draw c.cen).s, 0, 0, [], []⟩ from fun hb => by rw [c3M, hb]; rfl)
                                      go_upto_if 215 with (
                                        go_at_call 15
                                        (with_reducible refine (dchance_any _ r _ _ _ HI.out.rm.rng (by omega)).mono ?_)
                                        rintro e k0 ⟨rfl, hg9, hk9⟩
                                        have HI2 := hid (HI.out.draw hg9 hk9)
                                        clear hg9 hk9 HI
                                        have HI := HI2
                                        clear HI2
                                        clear t0 t1 t2 t3 t4 t5 t6 t7 t8 t9 t10 t11 t12 t13 t14 t15 td ts tw tf tl n0 n1 n2 n3 n4 n5 n6 nl
                                        obtain ⟨t0, t1, t2, t3, t4, t5, t6, t7, t8, t9, t10, t11, t12, t13, t14, t15, td, ts, tw, tf, tl⟩ := HI.out.rm.rc
                                        obtain ⟨n0, n1, n2, n3, n4, n5, n6, nl⟩ := HI.out.mc
                                        simp only at n0 n1 n2 n3 n4 n5 n6)
                                      obtain ⟨wc, hwc⟩ : ∃ v, v = k0 := ⟨_, rfl⟩
                                      subst hwc
                                      have hst := (c3M_stp c X11 hc3).len
                                      generalize hY11 : X11.draw 10 = Y11 at *
                                      clear hY11
                                      go_cut [5, 8] from 215 to 237 (fun u5 u8 w' => Hid (RI.Ex w w' b r d c ⟨m0, m1, m2, m3, m4, m5, m6⟩ (c3M c.cen X11) u5))
                                      case first =>
                                        cases hb : chc 1 10 X11.s
                                        · have HBB := hid (HDf.out hb)
                                          clear hb
                                          go_wp2_with fail
                                          go_meet
                                          exact hid ⟨_, _, _, rfl, by rw [HBB.out]; exact HI.out⟩
                                        · have HBB := hid (HDt.out hb)
                                          clear hb HDf HDt
                                          obtain ⟨wa, hwa⟩ : ∃ v, v = wc := ⟨_, rfl⟩
                                          subst hwa
                                          have HC1 := hid (fun W (hs : Same wa W) => roll_any W r _ c.cen (HI.out.same hs).rm.rng (by omega))
                                          have HRN := hid HI.out.rm.rc
                                          obtain ⟨hc0, hc1⟩ := roll_in c.cen Y11.s (by omega)
                                          have HWR := hid (IntWalk.i64_in (1 + roll c.cen Y11.s) (by omega))
                                          have hblt : b < w.heap.size ∧ r < w.heap.size ∧ d < w.heap.size := HI.out.lt
                                          have hwa0 : w.heap.size ≤ wa.heap.size := HI.out.kp.size
                                          go_upto_region 29 with fail
                                          go_cut [8] from 216 to 226 (fun uz w' => ∃ ab : Nat, uz = .pointer (some ⟨ab, 0, none⟩) ∧ Hid (wa.heap.size ≤ ab ∧ Blk w' ab 59 #[.int .i64 17, .int .i64 (roll c.cen Y11.s), .int .i64 0, .int .i64 0, .int .i64 0, .int .i64 0, .slice none 0 0, .slice none 0 0] ∧ Gn w' 33 r (aft c.cen Y11.s) ∧ Keep (· = r) wa w'))
                                          case first =>
                                            go_region_held3 (fun W => W.cell? ⟨b, 0, none⟩ = some (.pointer (some ⟨r, 0, none⟩)) ∧ W.cell? ⟨b, 1, none⟩ = some (.int .i64 c.cen))
                                              (first | with_reducible exact ⟨t0, t1⟩ | with_reducible exact HS.out | (with_reducible refine ⟨(cell_put8 hne1 0).trans z0, (cell_put8 hne1 1).trans z1⟩) | go_keep)
                                              (first
                                                | (
                                                  go_at_call 13
                                                  (with_reducible refine (HC1.out _ (by first | with_reducible exact Keep.refl _ _ | with_reducible exact (Keep.refl _ _).drew | with_reducible exact (Keep.refl _ _).alloc _ | with_reducible exact ((Keep.refl _ _).alloc _).drew)).mono ?_)
                                                  rintro e w2 ⟨rfl, hg9, hk9⟩
                                                  have hkk : Keep (· = r) wa w2 := by
                                                    first
                                                      | with_reducible exact hk9
                                                      | with_reducible exact (Keep.refl _ _).drew.trans hk9 (fun _ _ e => e)
                                                      | with_reducible exact ((Keep.refl _ _).alloc _).trans hk9 (fun _ _ e => e)
                                                      | with_reducible exact ((Keep.refl _ _).alloc _).drew.trans hk9 (fun _ _ e => e)
                                                  have HM2 := hid (HI.out.draws hg9 hkk)
                                                  have HK2 := hid hkk
                                                  have HG2 := hid hg9
                                                  have hf1 : ¬ (wa.heap.size = r) := by omega
                                                  try (with_reducible have HQ := hid ((Blk.made wa 59 #[.int .i64 0, .int .i64 0, .int .i64 0, .int .i64 0, .int .i64 0, .int .i64 0, .slice none 0 0, .slice none 0 0]).drew.keep hk9 hf1))
                                                  clear hf1
                                                  have HS := hid (show w2.cell? ⟨b, 0, none⟩ = some (.pointer (some ⟨r, 0, none⟩)) ∧ w2.cell? ⟨b, 1, none⟩ = some (.int .i64 c.cen) from ⟨HM2.out.rm.rc.c0, HM2.out.rm.rc.c1⟩)
                                                  obtain ⟨z0, z1⟩ := HS.out
                                                  have blt := HM2.out.rm.rc.lt
                                                  have hne1 : b ≠ wa.heap.size := by omega
                                                  have hsz2 : wa.heap.size ≤ w2.heap.size := hkk.size
                                                  try have rq := HQ.out.free
                                                  try have rqlt := HQ.out.lt
                                                  try have rq0 := HQ.out.at_ 0
                                                  try have rq1 := HQ.out.at_ 1
                                                  try have rq2 := HQ.out.at_ 2
                                                  try have rq3 := HQ.out.at_ 3
                                                  try have rq4 := HQ.out.at_ 4
                                                  try have rq5 := HQ.out.at_ 5
                                                  try have rq6 := HQ.out.at_ 6
                                                  try have rq7 := HQ.out.at_ 7
                                                  clear hg9 hk9 hkk))
                                            rotate_left 1
                                            · go_wp2_with fail
                                              go_meet
                                              try simp only [HWR.out]
                                              have hp8 := Blk.put8 HQ.out (.int .i64 17) (.int .i64 (roll c.cen Y11.s)) (.int .i64 0) (.int .i64 0) (.int .i64 0) (.int .i64 0) (.slice none 0 0) (.slice none 0 0)
                                              exact ⟨_, rfl, hid ⟨Nat.le_refl _, hp8.1, HG2.out.keep hp8.2 (by omega), HK2.out.trans (hp8.2.wide (T := fun i => wa.heap.size ≤ i) (fun i _ e => by omega)) (fun i hi e => by omega)⟩⟩
                                            · go_wp2_with fail
                                              go_meet
                                              try simp only [HWR.out]
                                              exact ⟨_, rfl, hid ⟨hsz2, Blk.made _ _ _, HG2.out.keep ((Keep.refl (fun _ => False) _).alloc _) (fun f => f), HK2.out.alloc _⟩⟩
                                          case rest =>
                                            obtain ⟨ab, rfl, hcc⟩ := hcut
                                            obtain ⟨hab, hb1, hg1, hk1⟩ := hcc.out
                                            have HA := HI
                                            have HB := hid hb1
                                            have HGc := hid hg1
                                            have HKc := hid hk1
                                            clear hcc hb1 hg1 hk1 HC1 HRN HI
                                            clear t0 t1 t2 t3 t4 t5 t6 t7 t8 t9 t10 t11 t12 t13 t14 t15 td ts tw tf tl n0 n1 n2 n3 n4 n5 n6 nl
                                            have HI := hid (HA.out.draws HGc.out HKc.out)
                                            obtain ⟨t0, t1, t2, t3, t4, t5, t6, t7, t8, t9, t10, t11, t12, t13, t14, t15, td, ts, tw, tf, tl⟩ := HI.out.rm.rc
                                            obtain ⟨n0, n1, n2, n3, n4, n5, n6, nl⟩ := HI.out.mc
                                            simp only at n0 n1 n2 n3 n4 n5 n6
                                            have hb2 : ∀ s, 0 ≤ roll 20 s ∧ roll 20 s < 20 := fun s => roll_in 20 s (by omega)
                                            have HB2 := hid hb2
                                            clear hb2
                                            go_upto_region 31 with (
                                              go_at_call 13
                                              (with_reducible refine (roll_any _ r _ _ HGc.out (by omega)).mono ?_)
                                              rintro e v1 ⟨rfl, hg9, hk9⟩
                                              have HKc2 := hid (HKc.out.trans hk9 (fun _ _ e => e))
                                              have HGc2 := hid hg9
                                              have HBb := hid (HB.out.keep hk9 (fun e => by omega))
                                              clear hg9 hk9 HI HKc HGc HB
                                              have HKc := HKc2
                                              have HGc := HGc2
                                              have HB := HBb
                                              clear HKc2 HGc2 HBb
                                              obtain ⟨hv0, hv1⟩ := HB2.out (aft c.cen Y11.s)
                                              have c1 := HB.out.at_ 3
                                              have f1 := HB.out.free 3
                                              have l1 := HB.out.lt
                                              clear t0 t1 t2 t3 t4 t5 t6 t7 t8 t9 t10 t11 t12 t13 t14 t15 td ts tw tf tl n0 n1 n2 n3 n4 n5 n6 nl)
                                            clear c1 f1 l1
                                            have HGm := hid (show roll 20 (Y11.draw c.cen).s = roll 20 (aft c.cen Y11.s) from rfl)
                                            rw [HGm.out] at HBB
                                            clear HGm
                                            generalize roll 20 (aft c.cen Y11.s) = nn at *
                                            have hkp := (Keep.refl (· = ab) v1).put 3 (.int .i64 (1 + nn))
                                            have HKn := hid (HKc.out.trans (hkp.wide (T := fun i => wa.heap.size ≤ i) (fun i _ e => by omega)) (fun i hi e => by omega))
                                            have HGn := hid (HGc.out.keep hkp (fun e => by omega))
                                            have HBn := hid (HB.out.put 3 (.int .i64 (1 + nn)))
                                            clear HKc HGc HB hkp
                                            generalize v1.setCell ⟨ab, 3, none⟩ (.int .i64 (1 + nn)) = v2 at *
                                            have HI := hid (HA.out.draws HGn.out HKn.out)
                                            have bl := HBn.out.lt
                                            have e0 : v2.cell? ⟨ab, 0, none⟩ = some (.int .i64 17) := (HBn.out.at_ 0).trans rfl
                                            have e1 : v2.cell? ⟨ab, 1, none⟩ = some (.int .i64 (roll c.cen Y11.s)) := (HBn.out.at_ 1).trans rfl
                                            have e2 : v2.cell? ⟨ab, 2, none⟩ = some (.int .i64 0) := (HBn.out.at_ 2).trans rfl
                                            have e3 : v2.cell? ⟨ab, 3, none⟩ = some (.int .i64 (1 + nn)) := (HBn.out.at_ 3).trans rfl
                                            have e4 : v2.cell? ⟨ab, 4, none⟩ = some (.int .i64 0) := (HBn.out.at_ 4).trans rfl
                                            have e5 : v2.cell? ⟨ab, 5, none⟩ = some (.int .i64 0) := (HBn.out.at_ 5).trans rfl
                                            have e6 : v2.cell? ⟨ab, 6, none⟩ = some (.slice none 0 0) := (HBn.out.at_ 6).trans rfl
                                            have e7 : v2.cell? ⟨ab, 7, none⟩ = some (.slice none 0 0) := (HBn.out.at_ 7).trans rfl
                                            go_wp2_with (
                                              at_builtin
                                              refine EAc.law2 (.tmp 234) (.tmp 236) (.slice A la.length cp) (some ⟨v2.heap.size, 0, none⟩) 1 1 rfl rfl rfl rfl 0 la.length (accells la) ((plA 17 (roll c.cen Y11.s) 0 (1 + nn) 0 0) : AC).cells (la.length + 1) (accells la ++ ((plA 17 (roll c.cen Y11.s) 0 (1 + nn) 0 0) : AC).cells) rfl rfl (HI.out.own.keep ((Keep.refl (fun _ => False) v2).alloc _) (fun _ _ _ f => f)) rfl (fun _ => ⟨_, rfl, src_new (w := v2) rfl⟩) (fun u hu => accells_one [(plA 17 (roll c.cen Y11.s) 0 (1 + nn) 0 0)] u (by simpa [accells] using hu)) (by omega) (by unfold maxLen; omega) (Nat.zero_le _) ?_
                                              intro A7 c7 v3 ho7 hg7 hw7
                                              have HI2 := hid (HI.out.push ((Keep.refl (fun _ => False) v2).alloc _) (plA 17 (roll c.cen Y11.s) 0 (1 + nn) 0 0) (AcK.plain _ _ _ _ _ _ _ _) ho7 hg7 hw7 (plA_val _ _ _ _ _ _))
                                              clear ho7 hg7 hw7 HI
                                              have HI := HI2
                                              clear HI2)
                                            go_meet
                                            exact hid ⟨A7, c7, la ++ [plA 17 (roll c.cen Y11.s) 0 (1 + nn) 0 0], by simp, by rw [HBB.out]; exact HI.out⟩
                                      case rest =>
                                        clear HDf HDt
                                        obtain ⟨A, cp, la, hu, hI⟩ := hcut.out
                                        subst hu
                                        clear hcut HI
                                        clear t0 t1 t2 t3 t4 t5 t6 t7 t8 t9 t10 t11 t12 t13 t14 t15 td ts tw tf tl n0 n1 n2 n3 n4 n5 n6 nl
                                        have HI := hid hI
                                        clear hI
                                        generalize c3M c.cen X11 = X12 at *
                                        have hlx2 : X12.l.length ≤ 15 := by omega
                                        have hdx2 : 0 ≤ X12.di ∧ X12.di ≤ 90014 := by omega
                                        clear hlx hdx
                                        have hlx := hlx2
                                        have hdx := hdx2
                                        clear hlx2 hdx2
                                        have hla : la.length ≤ 30 := by rw [HI.out.len]; omega
                                        obtain ⟨t0, t1, t2, t3, t4, t5, t6, t7, t8, t9, t10, t11, t12, t13, t14, t15, td, ts, tw, tf, tl⟩ := HI.out.rm.rc
                                        obtain ⟨n0, n1, n2, n3, n4, n5, n6, nl⟩ := HI.out.mc
                                        simp only at n0 n1 n2 n3 n4 n5 n6
                                        clear hst
                                        go_wp2_with fail
                                        go_ret
                                        exact ⟨A, cp, la, rfl, by rw [HRM.out]; exact HI.out⟩
end
end Go.Proofs.Ytnejacmmbfeneaa

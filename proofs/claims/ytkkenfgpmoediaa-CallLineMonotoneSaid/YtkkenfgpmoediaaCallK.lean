import Derived.Test.YtkkenfgpmoediaaCallJ
namespace Go.Proofs.Ytkkenfgpmoediaa
open Go.RowKit

/-! ## Monotone -/
set_option maxHeartbeats 16000000 in
set_option maxRecDepth 100000 in
theorem mono_walk (w : World) (X : Option Addr) (N cX : Nat) (L : List LA) (hAC : Sl w (fun _ => False) 6 X N (actCells L)) (hN : N ≤ maxLen) :
    Calls Try.prog 3 #[.slice X N cX] w fun e w' => e = .returned (.bool true) ∧ Same w w' := by
  have HN := hid (acts_len hAC)
  have HSM := hid (fun W (hk : Same w W) => small_any W X N cX L (hAC.same hk) hN)
  have HAC := hid (fun W (hk : Same w W) => hAC.same hk)
  have HAL := hid (alive_any w)
  have hN' : (N : Int) ≤ 9223372036854775807 := by unfold maxLen at hN; omega
  have HNm := hid hN
  clear hAC hN
  by_cases hsm : smallL L = true
  · rw [hsm] at HSM
    go_enter Try.func3, Try.ntmps3
    go_wp2_with fail
    refine HAL.out.mono ?_
    rintro e w1 ⟨rfl, hk1⟩
    have HK1 := hid hk1
    have HSM1 := hid (HSM.out w1 hk1)
    clear hk1 HAL HSM
    go_wp2_with fail
    refine HSM1.out.mono ?_
    rintro e w2 ⟨rfl, hk2⟩
    have HK2 := hid (HK1.out.then hk2)
    clear hk2 HSM1
    go_wp2_with fail
    refine (new_any w2 3 4 (by decide) (by decide)).mono ?_
    rintro e w3 ⟨rfl, hl3, hk3⟩
    have HL3 := hid hl3
    have HK3 := hid (HK2.out.then hk3)
    have hlb0 := HK2.out.size
    have hlb3 := hl3.top.lt
    generalize hlb : w2.heap.size = lb at *
    clear hl3 hk3
    go_wp2_with fail
    refine (newRef_any w3 3 4 (by decide) (by decide)).mono ?_
    rintro e w4 ⟨rfl, hk4⟩
    have HL4 := hid (HL3.out.same hk4)
    have HK4 := hid (HK3.out.then hk4)
    have hz4 := hk4.size
    simp only [CL.cells]
    have hka : Same w4 (w4.alloc (.cells #[.int .i64 3, .int .i64 1, .int .i64 4, .int .i64 (-1), .int .i64 0, .string ⟨#[]⟩, .int .i64 0, .slice none 0 0] 31)) := (Keep.refl _ w4).alloc _
    have HI0 : Hid (LM w (w4.alloc (.cells #[.int .i64 3, .int .i64 1, .int .i64 4, .int .i64 (-1), .int .i64 0, .string ⟨#[]⟩, .int .i64 0, .slice none 0 0] 31)) lb w4.heap.size (runS (L.take 0)) (runM (L.take 0))) :=
      hid ⟨none, none, 0, none, 0, HL4.out.same hka, Blk.made w4 31 _, Sl.nil _ _ _ _, HK4.out.then hka, hlb0, by have := HK4.out.size; omega, by omega, fun g e => by cases e⟩
    clear hk4 hka HL3 HL4
    go_wp2_with fail
    generalize w4.heap.size = mb at *
    go_loopw [35] (fun i wr => ∃ k : Nat, k ≤ N ∧ i = .int .i64 k ∧ Hid (LM w wr lb mb (runS (L.take k)) (runM (L.take k)))) (fun i _ => N - (RowKit.intOf i).toNat)
    case atStart => exact ⟨0, by omega, rfl, HI0⟩
    case round =>
      obtain ⟨k, hk, rfl, HI⟩ := hrel
      by_cases hlt : k < N
      · obtain ⟨a, ha⟩ := get_some (l := L) (k := k) (by have := HN.out; omega)
        have HSN := hid (show runS (L.take (k + 1)) = stepS (runS (L.take k)) a by rw [take_snoc ha, runS_snoc])
        have HMN := hid (show runM (L.take (k + 1)) = stepM (runM (L.take k)) a by rw [take_snoc ha, runM_snoc])
        have hml := runM_len (L.take k)
        have hok := hid (runS_ok (L.take k))
        have hks := hid (step_kept (runS (L.take k)) a)
        have HLS := hid HI.out.line
        obtain ⟨r, A, c, B, d, hL, hB, hM, hK, g5, g6, g7, g8⟩ := HI.out
        obtain ⟨b, off, rfl, hb, q0, q1, q2, q3, q4, q5⟩ := acts_at (HAC.out wr hK) ha
        generalize runS (L.take k) = s at *
        generalize runM (L.take k) = m at *
        have hal := hok.out.n
        obtain ⟨ocall, ost, osince, ocen, oep, oname, over, oans⟩ := m
        obtain ⟨ak, acen, an, aep, atk, atree⟩ := a
        simp only at q0 q1 q2 q3 q4 q5 hml
        have hka : Same wr (wr.alloc (.cells #[.int .i64 ak, .int .i64 acen, .int .i64 an, .int .i64 aep, .int .i64 atk, .string atree] 35)) := (Keep.refl _ wr).alloc _
        have HKA0 := hid hka
        have hab := Blk.made wr 35 #[.int .i64 ak, .int .i64 acen, .int .i64 an, .int .i64 aep, .int .i64 atk, .string atree]
        have HAB := hid hab
        have HB := hid hB
        have HM := hid hM
        have HL := hid hL
        have HK := hid hK
        have HG8 := hid g8
        have hmb := hB.lt
        have hlb := hL.top.lt
        have HRL := hid hL.lt
        have hk1 : (k : Int) < (N : Int) := by omega
        have hk2 : (k : Int) + 1 ≤ 9223372036854775807 := by omega
        have HLa := hid (HLS.out.same hka)
        clear hL hB hM hK hka HI ha hab g8
        go_wp2_with fail
        refine HLa.out.owner.mono ?_
        rintro e w5 ⟨rfl, hk5⟩
        have HK5 := hid (HKA0.out.then hk5)
        have HL5 := hid (HLa.out.same hk5)
        have HAB5 := hid (HAB.out.keep hk5 (fun f => f))
        clear hk5
        go_wp2_with fail
        refine (HL5.out.answers (by omega)).mono ?_
        rintro e w6 ⟨B1, d1, rfl, hS6, hk6⟩
        have HK6 := hid (HK5.out.then hk6).drew
        have HS6 := hid (hS6.same (Keep.refl (fun _ => False) w6).drew)
        have HL6 := hid (HL5.out.same hk6.drew)
        have HAB6 := hid (HAB5.out.keep hk6.drew (fun f => f))
        have hz5 := HK5.out.size
        have HM6 := hid (HL6.out.marshal hok.out)
        clear hk6 hS6
        go_wp2
        go_region_law (first
          | (go_simp
             go_at_call 12; (with_reducible refine HM6.out.mono ?_); rintro e w7 ⟨g7', rfl, hg7, hb7, hk7⟩
             have hcv7 := conv_str w7 (fun _ => False) (some ⟨g7', 0, none⟩) (encCL s).length (encCL s).length (encCL s) (Sl.of_blk hb7 (by simp) (fun f => f))
             have HK7 := hid (HK6.out.then hk7)
             have HL7 := hid (HL6.out.same hk7)
             have HS7 := hid (HS6.out.same hk7)
             have HAB7 := hid (HAB6.out.keep hk7 (fun f => f))
             clear hb7 hk7)
          | (go_simp
             go_at_call 13; (with_reducible refine HL7.out.state.mono ?_); rintro e w8 ⟨rfl, rfl⟩))
        all_goals
          have hD := does_any (fun i => i = mb) w7 (fun i hi => by have := HK7.out.size; omega) lb r A c s (HL.out.same HK7.out) ⟨ocall, ost, osince, ocen, oep, oname, over, oans⟩ B d (HM.out.same HK7.out) (by simp only; omega) ⟨ak, acen, an, aep, atk, atree⟩
          have hmb7 := HB.out.keep HK7.out (fun f => f)
          have z0 := hmb7.at_ 0
          have z1 := hmb7.at_ 1
          have z2 := hmb7.at_ 2
          have z3 := hmb7.at_ 3
          have z4 := hmb7.at_ 4
          have z5 := hmb7.at_ 5
          have z6 := hmb7.at_ 6
          have z7 := hmb7.at_ 7
          have x0 := HAB7.out.at_ 0
          have x1 := HAB7.out.at_ 1
          have x2 := HAB7.out.at_ 2
          have x3 := HAB7.out.at_ 3
          have x4 := HAB7.out.at_ 4
          have x5 := HAB7.out.at_ 5
          simp [CL.cells] at z0 z1 z2 z3 z4 z5 z6 z7 x0 x1 x2 x3 x4 x5
          have HBa := hid hmb7
          have HKa := hid (HK.out.then HK7.out)
          simp only [CL.cells, LA.cells] at hD
          generalize hsn : stepS s ⟨ak, acen, an, aep, atk, atree⟩ = s' at *
          generalize hmn : stepM ⟨ocall, ost, osince, ocen, oep, oname, over, oans⟩ ⟨ak, acen, an, aep, atk, atree⟩ = m' at *
          generalize (stepE s ⟨ak, acen, an, aep, atk, atree⟩ == stepE ⟨ocall, ost, osince, ocen, oep, oname, over, oans⟩ ⟨ak, acen, an, aep, atk, atree⟩) = bb at *
          have HD := hid hD
          have hw7 := HK7.out.size
          clear hD hsn hmn hmb7
          go_wp2_with fail
          refine HD.out.mono ?_
          rintro e w2 hD2
          obtain ⟨r2, A2, c2, B2, d2, he, hL2, hS2, hK2, hg2⟩ := hD2
          subst he
          obtain ⟨mcall, mst, msince, mcen, mep, mname, mver, mans⟩ := m'
          simp only [CL.cells]
          simp only at hS2
          have hmr : ¬ (mb = lb ∨ some mb = r) := fun e => by
            rcases e with e | e
            · exact g7 e
            · exact (HG8.out mb e.symm).2 rfl
          have hb2 := HBa.out.keep hK2 hmr
          simp only [CL.cells] at hb2
          have HB2 := hid hb2
          have HSD2 := hid ((HS7.out.wide (Av' := fun i => i = lb ∨ some i = r ∨ i = mb) (fun i _ e => by
            have h1 := HK5.out.size
            rcases e with e | e | e
            · omega
            · have := HRL.out i e.symm; omega
            · omega)).keep hK2 (fun i _ e => e.elim .inl (fun e => .inr (.inl e))))
          have hKw : Same w w2 := HKa.out.trans hK2 (fun i hi e => by
            rcases e with e | e
            · omega
            · have := (HG8.out i e.symm).1; omega)
          have HKw := hid hKw
          have HS2 := hid hS2
          have HL2 := hid hL2
          have HG2 := hid (show ∀ g, r2 = some g → w.heap.size ≤ g ∧ g ≠ mb from fun g e => by
            rcases hg2 g e with e2 | e2
            · exact HG8.out g e2
            · have := HKw.out.size
              have := HKa.out.size
              exact ⟨by omega, by omega⟩)
          have hmb2 := hb2.lt
          have p0 := hb2.at_ 0
          have f0 := hb2.free 0
          have p1 := hb2.at_ 1
          have f1 := hb2.free 1
          have p2 := hb2.at_ 2
          have f2 := hb2.free 2
          have p3 := hb2.at_ 3
          have f3 := hb2.free 3
          have p4 := hb2.at_ 4
          have f4 := hb2.free 4
          have p5 := hb2.at_ 5
          have f5 := hb2.free 5
          have p6 := hb2.at_ 6
          have f6 := hb2.free 6
          have p7 := hb2.at_ 7
          have f7 := hb2.free 7
          simp at p0 p1 p2 p3 p4 p5 p6 p7
          clear hb2 hKw hS2 hL2 hg2 hK2 z0 z1 z2 z3 z4 z5 z6 z7 HBa HKa hmr
          go_upto_region 16 with fail
          have hkA := (((((((((Keep.refl (· = mb) w2).put 0 (.int .i64 mcall)).put 1 (.int .i64 mst)).put 2 (.int .i64 msince)).put 3 (.int .i64 mcen)).put 4 (.int .i64 mep)).put 5 (.string mname)).put 6 (.int .i64 mver)).put 7 (.slice B2 mans.length d2))
          have hrA := ((((((((HB2.out.put 0 (.int .i64 mcall)).put 1 (.int .i64 mst)).put 2 (.int .i64 msince)).put 3 (.int .i64 mcen)).put 4 (.int .i64 mep)).put 5 (.string mname)).put 6 (.int .i64 mver)).put 7 (.slice B2 mans.length d2))
          generalize ((((((((w2.setCell ⟨mb, 0, none⟩ (.int .i64 mcall)).setCell ⟨mb, 1, none⟩ (.int .i64 mst)).setCell ⟨mb, 2, none⟩ (.int .i64 msince)).setCell ⟨mb, 3, none⟩ (.int .i64 mcen)).setCell ⟨mb, 4, none⟩ (.int .i64 mep)).setCell ⟨mb, 5, none⟩ (.string mname)).setCell ⟨mb, 6, none⟩ (.int .i64 mver)).setCell ⟨mb, 7, none⟩ (.slice B2 mans.length d2)) = wA at *
          have HIA : Hid (LM w wA lb mb s' ⟨mcall, mst, msince, mcen, mep, mname, mver, mans⟩) := hid ⟨r2, A2, c2, B2, d2, HL2.out.keep hkA (fun e => g7 e.symm) (fun g e h => (HG2.out g e).2 h), hrA, HS2.out.keep hkA (fun i _ e => .inr e) |>.wide (fun _ _ e => e), HKw.out.trans hkA (fun i hi e => by omega), g5, g6, g7, HG2.out⟩
          have HSDA := hid ((HSD2.out.keep hkA (fun i _ e => .inr (.inr e))).wide (Av' := fun _ => False) (fun _ _ f => f.elim))
          clear hkA hrA HS2 HL2 HKw HB2 HG2 p0 p1 p2 p3 p4 p5 p6 p7 f0 f1 f2 f3 f4 f5 f6 f7
          have HLN := hid HIA.out.line
          have hep : ¬ s'.ep < s.ep := by have := hks.out.ep; omega
          have hxs := hks.out.ans
          obtain ⟨xs, hxs⟩ := hxs
          have hle : s.ans.length ≤ s'.ans.length := by rw [hxs]; simp
          have HXS := hid hxs
          have hok' := hid (hks.out.ok hok.out)
          have hal' := hok'.out.n
          have hle2 : ¬ (s'.ans.length : Int) < (s.ans.length : Int) := by omega
          have hepd : decide (s'.ep < s.ep) = false := decide_eq_false hep
          have hled : decide (s'.ans.length < s.ans.length) = false := decide_eq_false (by omega)
          clear hxs
          go_wp2_with fail
          refine HLN.out.owner.mono ?_
          rintro e w10 ⟨rfl, hk10⟩
          have HK10 := hid hk10
          have HL10 := hid (HLN.out.same hk10)
          have HS10 := hid (HSDA.out.same hk10)
          clear hk10
          by_cases h5 : s.st = 5
          · have h5b : (s.st == (5 : Int)) = true := by simpa using h5
            have hsame := hks.out.closed h5
            have HEN := hid (show encCL s' = encCL s by rw [hsame])
            clear hsame
            go_upto_region 17 with fail
            clear hk2 hN' hlb3 hz4
            go_wp2_with (first
              | (go_at_call 11; refine (HL10.out.answers (by omega)).mono ?_; rintro e w11 ⟨B2', d2', rfl, _, hk11⟩
                 have HK11 := hid (HK10.out.then hk11)
                 have HL11 := hid (HL10.out.same hk11)
                 have HS11 := hid (HS10.out.same hk11)
                 have hm11 := HL11.out.marshal hok'.out
                 rw [HEN.out] at hm11
                 have HM11 := hid hm11
                 clear hk11 hm11)
              | (go_at_call 12; refine HM11.out.mono ?_; rintro e w12 ⟨g12, rfl, hg12, hb12, hk12⟩
                 have hcv12 := conv_str w12 (fun _ => False) (some ⟨g12, 0, none⟩) (encCL s).length (encCL s).length (encCL s) (Sl.of_blk hb12 (by simp) (fun f => f))
                 have HK12 := hid (HK11.out.then hk12)
                 have HL12 := hid (HL11.out.same hk12)
                 have HS12 := hid (HS11.out.same hk12)
                 clear hb12 hk12))
            go_wp2
            try simp only [hepd, hled, Bool.or_self]
            go_loopw [87] (fun i wi => ∃ j : Nat, j ≤ s.ans.length ∧ i = .int .i64 j ∧ Hid (Same w12 wi)) (fun i _ => s.ans.length - (RowKit.intOf i).toNat)
            case atStart => exact ⟨0, by omega, rfl, hid (Keep.refl _ _)⟩
            case round =>
              obtain ⟨j, hj, rfl, HJ⟩ := hrel
              by_cases hjl : j < s.ans.length
              · obtain ⟨v, hv⟩ := get_some (l := s.ans) (k := j) hjl
                have hv' : s'.ans[j]? = some v := by rw [HXS.out, List.getElem?_append_left hjl]; exact hv
                obtain ⟨b1, o1, rfl, _, _, hr1⟩ := (HS12.out.same HJ.out).at_ (by omega)
                have y1 := hr1 j (.int .i64 v) (by simp [icells, hv])
                have HV := hid hv'
                have HLj := hid (HL12.out.same HJ.out)
                have hj1 : (j : Int) < (s.ans.length : Int) := by omega
                have hj2 : (j : Int) < (s'.ans.length : Int) := by omega
                have hj3 : (j : Int) + 1 ≤ 9223372036854775807 := by omega
                have hj0 : (0 : Int) ≤ (j : Int) := by omega
                clear hr1 hv hv'
                go_wp2_with (go_at_call 11; refine (HLj.out.answers (by omega)).mono ?_; rintro e w13 ⟨B3, d3, rfl, hS13, hk13⟩
                             obtain ⟨b3, o3, rfl, _, _, hr3⟩ := hS13.at_ (by omega)
                             have y3 := hr3 j (.int .i64 v) (by simp [icells, HV.out])
                             have HK13 := hid (HJ.out.then hk13)
                             clear hr3 hS13 hk13)
                go_roundw
                case rel =>
                  first
                  | exact ⟨j + 1, by omega, by go_num, HK13⟩
                  | (repeat apply Exists.intro
                     refine And.intro ?_ rfl
                     exact ⟨j + 1, by omega, by go_num, HK13⟩)
                case measure => simp [RowKit.intOf]; omega
              · have hk2 : (k : Int) + 1 ≤ 9223372036854775807 := by have := HNm.out; unfold maxLen at this; omega
                go_wp2_with fail
                go_roundw
                case rel =>
                  repeat apply Exists.intro
                  refine And.intro ?_ rfl
                  exact ⟨k + 1, by omega, by go_num, by rw [HSN.out, HMN.out]; exact hid (HIA.out.same (HK12.out.then HJ.out))⟩
                case measure => simp [RowKit.intOf]; omega
          · have h5b : (s.st == (5 : Int)) = false := by simpa using h5
            go_upto_region 17 with fail
            clear hk2 hN' hlb3 hz4
            go_wp2_with (go_at_call 11; refine (HL10.out.answers (by omega)).mono ?_; rintro e w11 ⟨B2', d2', rfl, _, hk11⟩
                         have HK11 := hid (HK10.out.then hk11)
                         have HL11 := hid (HL10.out.same hk11)
                         have HS11 := hid (HS10.out.same hk11)
                         clear hk11)
            go_wp2
            try simp only [hepd, hled, Bool.or_self]
            go_loopw [87] (fun i wi => ∃ j : Nat, j ≤ s.ans.length ∧ i = .int .i64 j ∧ Hid (Same w11 wi)) (fun i _ => s.ans.length - (RowKit.intOf i).toNat)
            case atStart => exact ⟨0, by omega, rfl, hid (Keep.refl _ _)⟩
            case round =>
              obtain ⟨j, hj, rfl, HJ⟩ := hrel
              by_cases hjl : j < s.ans.length
              · obtain ⟨v, hv⟩ := get_some (l := s.ans) (k := j) hjl
                have hv' : s'.ans[j]? = some v := by rw [HXS.out, List.getElem?_append_left hjl]; exact hv
                obtain ⟨b1, o1, rfl, _, _, hr1⟩ := (HS11.out.same HJ.out).at_ (by omega)
                have y1 := hr1 j (.int .i64 v) (by simp [icells, hv])
                have HV := hid hv'
                have HLj := hid (HL11.out.same HJ.out)
                have hj1 : (j : Int) < (s.ans.length : Int) := by omega
                have hj2 : (j : Int) < (s'.ans.length : Int) := by omega
                have hj3 : (j : Int) + 1 ≤ 9223372036854775807 := by omega
                have hj0 : (0 : Int) ≤ (j : Int) := by omega
                clear hr1 hv hv'
                go_wp2_with (go_at_call 11; refine (HLj.out.answers (by omega)).mono ?_; rintro e w13 ⟨B3, d3, rfl, hS13, hk13⟩
                             obtain ⟨b3, o3, rfl, _, _, hr3⟩ := hS13.at_ (by omega)
                             have y3 := hr3 j (.int .i64 v) (by simp [icells, HV.out])
                             have HK13 := hid (HJ.out.then hk13)
                             clear hr3 hS13 hk13)
                go_roundw
                case rel =>
                  first
                  | exact ⟨j + 1, by omega, by go_num, HK13⟩
                  | (repeat apply Exists.intro
                     refine And.intro ?_ rfl
                     exact ⟨j + 1, by omega, by go_num, HK13⟩)
                case measure => simp [RowKit.intOf]; omega
              · have hk2 : (k : Int) + 1 ≤ 9223372036854775807 := by have := HNm.out; unfold maxLen at this; omega
                go_wp2_with fail
                go_roundw
                case rel =>
                  repeat apply Exists.intro
                  refine And.intro ?_ rfl
                  exact ⟨k + 1, by omega, by go_num, by rw [HSN.out, HMN.out]; exact hid (HIA.out.same (HK11.out.then HJ.out))⟩
                case measure => simp [RowKit.intOf]; omega
      · have e1 : L.take k = L := List.take_of_length_le (by have := HN.out; omega)
        rw [e1] at HI
        have hok := hid (runS_ok L)
        generalize runS L = s at *
        generalize runM L = m at *
        clear e1
        go_wp2_with fail
        go_ret
        exact ⟨rfl, HI.out.line.kept⟩
  · have hsm' : smallL L = false := by simpa using hsm
    rw [hsm'] at HSM
    go_enter Try.func3, Try.ntmps3
    go_wp2_with fail
    refine HAL.out.mono ?_
    rintro e w1 ⟨rfl, hk1⟩
    have HSM1 := hid (HSM.out w1 hk1)
    have HK1 := hid hk1
    clear hk1
    go_wp2_with fail
    refine HSM1.out.mono ?_
    rintro e w2 ⟨rfl, hk2⟩
    go_wp2_with fail
    go_ret
    exact ⟨rfl, HK1.out.then hk2⟩
end Go.Proofs.Ytkkenfgpmoediaa

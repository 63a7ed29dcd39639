import Derived.Test.YtmkcphhgimlkgaaConfA
import Derived.Deep.Cut
namespace Go.Proofs.Ytmkcphhgimlkgaa
open Go.RowKit Go.PlainAid

section
variable (w : World)

/-! ## Plans -/
def PlOk (w : World) (p : PL) : Prop := Sl w (fun _ => False) 1 p.K p.kinds.length (icellsC p.kinds) ∧ p.kinds.length ≤ maxLen ∧ p.code.size ≤ maxLen
theorem PlOk.same {w w' : World} {p : PL} (h : PlOk w p) (hk : Same w w') : PlOk w' p := ⟨h.1.same hk, h.2⟩
set_option maxRecDepth 100000 in
set_option maxHeartbeats 4000000 in
theorem plan_any (p : PL) (hp : PlOk w p) : Calls Try.prog 72 #[.agg p.cells.toArray] w fun r w' => r = .returned (.bool (planB p)) ∧ Same w w' := by
  have HK := hid hp.1
  have HL := hid hp.2.1
  have HC := hid (Code_any)
  have HCS := hid hp.2.2
  clear hp
  obtain ⟨code, urg, K, cc, kinds⟩ := p
  simp only [PL.cells] at *
  have HPB := hid (show planB ⟨code, urg, K, cc, kinds⟩ = (kinds.all kindB && codeB code && (decide (1 ≤ urg) && decide (urg ≤ 5)) && (decide (1 ≤ kinds.length) && decide (kinds.length ≤ 8))) from rfl)
  generalize planB ⟨code, urg, K, cc, kinds⟩ = pb at *
  have z0 := (Keep.refl (fun _ => False) w).alloc (.cells #[.string code, .int .i64 urg, .slice K kinds.length cc] 108)
  have HZ := hid z0
  clear z0
  go_enter Try.func72, Try.ntmps72
  go_wp2_with fail
  go_loopw [8] (fun i wr => ∃ k : Nat, k ≤ kinds.length ∧ i = .int .i64 k ∧ wr = w.alloc (.cells #[.string code, .int .i64 urg, .slice K kinds.length cc] 108) ∧ Hid ((kinds.take k).all kindB = true)) (fun i _ => kinds.length - (RowKit.intOf i).toNat)
  case atStart => exact ⟨0, by omega, rfl, rfl, hid (by simp)⟩
  case round =>
    obtain ⟨k, hk, rfl, rfl, HI⟩ := hrel
    by_cases hlt : k < kinds.length
    · obtain ⟨a, ha⟩ := get_some (l := kinds) (k := k) hlt
      obtain ⟨b, off, rfl, hb3, q0⟩ := ints_at (HK.out.same HZ.out) ha
      have HT := hid (take_all (p := kindB) ha)
      have HNo := hid (fun hp => all_no (p := kindB) ha hp)
      have hk1 : (k : Int) < (kinds.length : Int) := by omega
      clear ha
      by_cases i1 : a < 1
      · go_wp2_with fail
        go_ret
        exact ⟨ret_of (congrArg Value.bool (by rw [HPB.out, HNo.out (by simp [kindB]; omega)]; rfl)), HZ.out⟩
      · by_cases i2 : 4 < a
        · go_wp2_with fail
          go_ret
          exact ⟨ret_of (congrArg Value.bool (by rw [HPB.out, HNo.out (by simp [kindB]; omega)]; rfl)), HZ.out⟩
        · go_upto_region 6 with fail
          have hk2 : (k : Int) + 1 ≤ 9223372036854775807 := by have := HL.out; unfold maxLen at this; omega
          go_wp2_with fail
          go_roundw
          case rel => exact ⟨k + 1, by omega, by go_num, by trivial, hid (by rw [HT.out, HI.out]; simp [kindB]; omega)⟩
          case measure => simp [RowKit.intOf]; omega
    · have e1 : kinds.take k = kinds := List.take_of_length_le (by omega)
      have hk1 : (kinds.length : Int) ≤ (k : Int) := by omega
      have h2 := HI.out
      rw [e1] at h2
      have H2 := hid h2
      clear h2 e1
      by_cases g0 : codeB code = true
      rotate_left 1
      · have g0' : codeB code = false := by simpa using g0
        go_wp2_with (go_at_call 86; (with_reducible refine (HC.out _ _ HCS.out).mono ?_); rintro e w9 ⟨rfl, rfl⟩; rw [g0'])
        go_ret
        exact ⟨ret_of (congrArg Value.bool (by rw [HPB.out, H2.out, g0']; first | rfl | (simp; omega) | simp)), HZ.out⟩
      · by_cases g1 : 1 ≤ urg
        rotate_left 1
        · go_wp2_with (go_at_call 86; (with_reducible refine (HC.out _ _ HCS.out).mono ?_); rintro e w9 ⟨rfl, rfl⟩; rw [g0])
          go_ret
          exact ⟨ret_of (congrArg Value.bool (by rw [HPB.out, H2.out, g0]; simp only [show decide (1 ≤ urg) = false from decide_eq_false (by omega)]; first | rfl | (simp; omega) | simp)), HZ.out⟩
        · by_cases g2 : urg ≤ 5
          rotate_left 1
          · go_wp2_with (go_at_call 86; (with_reducible refine (HC.out _ _ HCS.out).mono ?_); rintro e w9 ⟨rfl, rfl⟩; rw [g0])
            go_ret
            exact ⟨ret_of (congrArg Value.bool (by rw [HPB.out, H2.out, g0]; simp only [show decide (1 ≤ urg) = true from decide_eq_true (by omega), show decide (urg ≤ 5) = false from decide_eq_false (by omega)]; first | rfl | (simp; omega) | simp)), HZ.out⟩
          · by_cases g3 : 1 ≤ (kinds.length : Int)
            rotate_left 1
            · go_wp2_with (go_at_call 86; (with_reducible refine (HC.out _ _ HCS.out).mono ?_); rintro e w9 ⟨rfl, rfl⟩; rw [g0])
              go_ret
              exact ⟨ret_of (congrArg Value.bool (by rw [HPB.out, H2.out, g0]; simp only [show decide (1 ≤ urg) = true from decide_eq_true (by omega), show decide (urg ≤ 5) = true from decide_eq_true (by omega), show decide (1 ≤ kinds.length) = false from decide_eq_false (by omega)]; first | rfl | (simp; omega) | simp)), HZ.out⟩
            · by_cases g4 : (kinds.length : Int) ≤ 8
              rotate_left 1
              · go_wp2_with (go_at_call 86; (with_reducible refine (HC.out _ _ HCS.out).mono ?_); rintro e w9 ⟨rfl, rfl⟩; rw [g0])
                go_ret
                exact ⟨ret_of (congrArg Value.bool (by rw [HPB.out, H2.out, g0]; simp only [show decide (1 ≤ urg) = true from decide_eq_true (by omega), show decide (urg ≤ 5) = true from decide_eq_true (by omega), show decide (1 ≤ kinds.length) = true from decide_eq_true (by omega), show decide (kinds.length ≤ 8) = false from decide_eq_false (by omega)]; first | rfl | (simp; omega) | simp)), HZ.out⟩
              · go_wp2_with (go_at_call 86; (with_reducible refine (HC.out _ _ HCS.out).mono ?_); rintro e w9 ⟨rfl, rfl⟩; rw [g0])
                go_ret
                exact ⟨ret_of (congrArg Value.bool (by rw [HPB.out, H2.out, g0]; simp only [show decide (1 ≤ urg) = true from decide_eq_true (by omega), show decide (urg ≤ 5) = true from decide_eq_true (by omega), show decide (1 ≤ kinds.length) = true from decide_eq_true (by omega), show decide (kinds.length ≤ 8) = true from decide_eq_true (by omega)]; first | rfl | (simp; omega) | simp)), HZ.out⟩
theorem upB_at {l : List PL} {k : Nat} {p : PL} (h : l[k]? = some p) : upB l k = (planB p && (l.take k).all (diffB p)) := by simp [upB, h]
theorem plans_at {w : World} {c : CF} (hm : CM w c) {k : Nat} {p : PL} (h : c.pla[k]? = some p) : PlOk w p := hm.kinds p (List.mem_of_getElem? h)
set_option maxRecDepth 100000 in
set_option maxHeartbeats 8000000 in
theorem validPlans_any (g : Nat) (c : CF) (hb : Blk w g 27 c.cells.toArray) (hm : CM w c) : Calls Try.prog 66 #[.pointer (some ⟨g, 0, none⟩)] w fun e w' => e = .returned (.bool (plansB c.pla)) ∧ Same w w' := by
  have HB := hid (fun W (hk : Same w W) => (hb.keep hk (fun f => f)).at_ 4)
  have HM := hid (fun W (hk : Same w W) => (hm.same hk).pla)
  have HQ := hid (fun k p (h : c.pla[k]? = some p) => plans_at hm h)
  have HN := hid hm.lP
  have HCP := hid hm.capP
  have hg := hb.lt
  have HIK := hid isKind_any
  have HIC := hid isCode_any
  obtain ⟨cen, D, cD, dis, E, cE, edg, U, cU, uni, P, cP, pla, h0, h1, h2, h3, h4, h5, h6, h7, h8, h9⟩ := c
  simp [CF.cells] at HB
  simp only at HM HN HQ HCP
  clear hb hm
  have c4 := HB.out w (Keep.refl _ w)
  have HPB := hid (show plansB pla = (decide (pla.length ≤ 64) && (List.range pla.length).all (upB pla)) from rfl)
  generalize plansB pla = pb at *
  by_cases h64 : 64 < (pla.length : Int)
  · go_enter Try.func66, Try.ntmps66
    go_wp2_with fail
    go_ret
    exact ⟨ret_of (congrArg Value.bool (by rw [HPB.out, decide_eq_false (by omega)]; rfl)), Keep.refl _ w⟩
  go_enter Try.func66, Try.ntmps66
  go_wp2_with fail
  go_loopw [20] (fun i wr => ∃ k : Nat, k ≤ pla.length ∧ i = .int .i64 k ∧ Hid (Same w wr ∧ (List.range k).all (upB pla) = true)) (fun i _ => pla.length - (RowKit.intOf i).toNat)
  case atStart => exact ⟨0, by omega, rfl, hid ⟨Keep.refl _ w, by simp⟩⟩
  case round =>
    obtain ⟨k, hk, rfl, HI⟩ := hrel
    clear c4
    have c4 := HB.out wr HI.out.1
    by_cases hlt : k < pla.length
    · obtain ⟨a, ha⟩ := get_some (l := pla) (k := k) hlt
      obtain ⟨b, off, rfl, hb3, q0, q1, q2⟩ := pl_at (HM.out wr HI.out.1) ha
      have HU := hid (upB_at ha)
      have HNo := hid (show upB pla k = false → pb = false from fun h => by rw [HPB.out, range_no hlt h]; simp)
      have hpk := (HQ.out k a ha).same HI.out.1
      have hk1 : (k : Int) < (pla.length : Int) := by omega
      obtain ⟨code, urg, K, cc, kinds⟩ := a
      simp only at q0 q1 q2
      have HKS := hid (show Sl wr (fun _ => False) 1 K kinds.length (icellsC kinds) from hpk.1)
      have HKL := hid (show kinds.length ≤ maxLen from hpk.2.1)
      have HCS := hid (show code.size ≤ maxLen from hpk.2.2)
      clear hpk
      have HPL := hid (show planB ⟨code, urg, K, cc, kinds⟩ = (kinds.all kindB && codeB code && (decide (1 ≤ urg) && decide (urg ≤ 5)) && (decide (1 ≤ kinds.length) && decide (kinds.length ≤ 8))) from rfl)
      have HDF := hid (show ∀ q, diffB ⟨code, urg, K, cc, kinds⟩ q = !(q.code.toList == code.toList && q.urg == urg) from fun q => rfl)
      generalize planB ⟨code, urg, K, cc, kinds⟩ = qb at *
      generalize diffB ⟨code, urg, K, cc, kinds⟩ = df at *
      clear ha
      by_cases g0 : codeB code = true
      rotate_left 1
      · have g0' : codeB code = false := by simpa using g0
        go_wp2_with (go_at_call 84; (with_reducible refine (HIC.out _ _ HCS.out).mono ?_); rintro e w9 ⟨rfl, rfl⟩; rw [g0'])
        go_ret
        exact ⟨ret_of (congrArg Value.bool (HNo.out (by rw [HU.out, HPL.out, g0']; simp)).symm), HI.out.1.alloc _⟩
      · by_cases g1 : urg < 1
        · go_wp2_with (go_at_call 84; (with_reducible refine (HIC.out _ _ HCS.out).mono ?_); rintro e w9 ⟨rfl, rfl⟩; rw [g0])
          go_ret
          exact ⟨ret_of (congrArg Value.bool (HNo.out (by rw [HU.out, HPL.out, g0]; simp only [show decide (1 ≤ urg) = false from decide_eq_false (by omega)]; simp)).symm), HI.out.1.alloc _⟩
        · by_cases g2 : 5 < urg
          · go_wp2_with (go_at_call 84; (with_reducible refine (HIC.out _ _ HCS.out).mono ?_); rintro e w9 ⟨rfl, rfl⟩; rw [g0])
            go_ret
            exact ⟨ret_of (congrArg Value.bool (HNo.out (by rw [HU.out, HPL.out, g0]; simp only [show decide (1 ≤ urg) = true from decide_eq_true (by omega), show decide (urg ≤ 5) = false from decide_eq_false (by omega)]; simp)).symm), HI.out.1.alloc _⟩
          · by_cases g3 : (kinds.length : Int) < 1
            · go_wp2_with (go_at_call 84; (with_reducible refine (HIC.out _ _ HCS.out).mono ?_); rintro e w9 ⟨rfl, rfl⟩; rw [g0])
              go_ret
              exact ⟨ret_of (congrArg Value.bool (HNo.out (by rw [HU.out, HPL.out, g0]; simp only [show decide (1 ≤ urg) = true from decide_eq_true (by omega), show decide (urg ≤ 5) = true from decide_eq_true (by omega), show decide (1 ≤ kinds.length) = false from decide_eq_false (by omega)]; simp)).symm), HI.out.1.alloc _⟩
            · by_cases g4 : 8 < (kinds.length : Int)
              · go_wp2_with (go_at_call 84; (with_reducible refine (HIC.out _ _ HCS.out).mono ?_); rintro e w9 ⟨rfl, rfl⟩; rw [g0])
                go_ret
                exact ⟨ret_of (congrArg Value.bool (HNo.out (by rw [HU.out, HPL.out, g0]; simp only [show decide (1 ≤ urg) = true from decide_eq_true (by omega), show decide (urg ≤ 5) = true from decide_eq_true (by omega), show decide (1 ≤ kinds.length) = true from decide_eq_true (by omega), show decide (kinds.length ≤ 8) = false from decide_eq_false (by omega)]; simp)).symm), HI.out.1.alloc _⟩
              · go_wp2_with (go_at_call 84; (with_reducible refine (HIC.out _ _ HCS.out).mono ?_); rintro e w9 ⟨rfl, rfl⟩; rw [g0])
                have HZ := hid ((Keep.refl (fun _ => False) wr).alloc (.cells #[.string code, .int .i64 urg, .slice K kinds.length cc] 108))
                go_loopw [52] (fun i wk => ∃ j : Nat, j ≤ kinds.length ∧ i = .int .i64 j ∧ wk = wr.alloc (.cells #[.string code, .int .i64 urg, .slice K kinds.length cc] 108) ∧ Hid ((kinds.take j).all kindB = true)) (fun i _ => kinds.length - (RowKit.intOf i).toNat)
                case atStart => exact ⟨0, by omega, rfl, rfl, hid (by simp)⟩
                case round =>
                  obtain ⟨j, hj, rfl, rfl, HJ⟩ := hrel
                  by_cases hltj : j < kinds.length
                  · obtain ⟨a, ha⟩ := get_some (l := kinds) (k := j) hltj
                    obtain ⟨b2, off2, rfl, hb4, r0⟩ := ints_at (HKS.out.same HZ.out) ha
                    have HT := hid (take_all (p := kindB) ha)
                    have HKo := hid (fun hp => all_no (p := kindB) ha hp)
                    have hj1 : (j : Int) < (kinds.length : Int) := by omega
                    clear ha
                    by_cases i1 : kindB a = true
                    · go_upto_region 15 with (go_at_call 83; (with_reducible refine (HIK.out _ _).mono ?_); rintro e w9 ⟨rfl, rfl⟩; rw [i1])
                      have hj2 : (j : Int) + 1 ≤ 9223372036854775807 := by have := HKL.out; unfold maxLen at this; omega
                      go_wp2_with fail
                      go_roundw
                      case rel => exact ⟨j + 1, by omega, by go_num, by trivial, hid (by rw [HT.out, HJ.out, i1]; rfl)⟩
                      case measure => simp [RowKit.intOf]; omega
                    · have i1' : kindB a = false := by simpa using i1
                      go_wp2_with (go_at_call 83; (with_reducible refine (HIK.out _ _).mono ?_); rintro e w9 ⟨rfl, rfl⟩; rw [i1'])
                      go_ret
                      exact ⟨ret_of (congrArg Value.bool (HNo.out (by rw [HU.out, HPL.out, HKo.out i1']; simp)).symm), HI.out.1.alloc _⟩
                  · have hj1 : (kinds.length : Int) ≤ (j : Int) := by omega
                    have HKA := hid (show kinds.all kindB = true by have := HJ.out; rwa [List.take_of_length_le (by omega)] at this)
                    have HQB := hid (show qb = true by rw [HPL.out, HKA.out, g0]; simp only [show decide (1 ≤ urg) = true from decide_eq_true (by omega), show decide (urg ≤ 5) = true from decide_eq_true (by omega), show decide (1 ≤ kinds.length) = true from decide_eq_true (by omega), show decide (kinds.length ≤ 8) = true from decide_eq_true (by omega)]; rfl)
                    have hcz := (HZ.out.cell (p := ⟨g, 4, none⟩) (show g < wr.heap.size by have := HI.out.1.size; omega) (fun f => f)).trans c4
                    clear c4
                    have hkc : (k : Int) ≤ (cP : Int) := by have := HCP.out; omega
                    go_wp2_with fail
                    have HCO := hid (show codeB code = true from g0)
                    clear g0
                    obtain ⟨wo, hwo⟩ : ∃ x, x = wr := ⟨_, rfl⟩
                    subst hwo
                    go_loopw [67] (fun i wr => ∃ m : Nat, m ≤ k ∧ i = .int .i64 m ∧ Hid (Same (wo.alloc (.cells #[.string code, .int .i64 urg, .slice K kinds.length cc] 108)) wr ∧ ((pla.take k).take m).all df = true)) (fun i _ => k - (RowKit.intOf i).toNat)
                    case atStart => exact ⟨0, by omega, rfl, hid ⟨Keep.refl _ _, by simp⟩⟩
                    case round =>
                      obtain ⟨m, hm, rfl, HV⟩ := hrel
                      have HSQ := hid (HZ.out.then HV.out.1)
                      have HBO := hid ((Blk.made wo 108 #[.string code, .int .i64 urg, .slice K kinds.length cc]).keep (S := fun _ => False) HV.out.1 (fun f => f))
                      have d0 : wr.cell? ⟨wo.heap.size, 0, none⟩ = some (.string code) := (HBO.out.at_ 0).trans rfl
                      have d1 : wr.cell? ⟨wo.heap.size, 1, none⟩ = some (.int .i64 urg) := (HBO.out.at_ 1).trans rfl
                      have hlq := HBO.out.lt
                      by_cases hltm : m < k
                      · obtain ⟨q, hq⟩ := get_some (l := pla) (k := m) (by omega)
                        obtain ⟨b5, off5, e5, hb5, s0, s1, s2⟩ := pl_at (HM.out wr (HI.out.1.then HSQ.out)) hq
                        injection e5 with e5
                        injection e5 with e5 e6
                        subst e5 e6
                        have hq2 : (pla.take k)[m]? = some q := by rw [List.getElem?_take, if_pos hltm]; exact hq
                        have HT := hid (take_all (p := df) hq2)
                        have HDo := hid (fun hp => all_no (p := df) hq2 hp)
                        have HDQ := hid (HDF.out q)
                        have hm1 : (m : Int) < (k : Int) := by omega
                        clear hq hq2
                        obtain ⟨qc, qu, qK, qcc, qk⟩ := q
                        simp only at s0 s1 s2 HDQ
                        have hne : wo.heap.size ≠ wr.heap.size := by omega
                        by_cases j1 : (qc.toList == code.toList) = true
                        · by_cases j2 : (qu == urg) = true
                          · go_wp2_with fail
                            go_ret
                            exact ⟨ret_of (congrArg Value.bool (HNo.out (by rw [HU.out, HDo.out (by rw [HDQ.out, j1, j2]; rfl)]; simp)).symm), (HI.out.1.then HSQ.out).alloc _⟩
                          · have j3 : (qu == urg) = false := by simpa using j2
                            clear j2
                            go_upto_region 21 with fail
                            have hm2 : (m : Int) + 1 ≤ 9223372036854775807 := by have := HN.out; unfold maxLen at this; omega
                            go_wp2_with fail
                            go_roundw
                            case rel => exact ⟨m + 1, by omega, by go_num, hid ⟨HV.out.1.alloc _, by rw [HT.out, HV.out.2, HDQ.out, j1, j3]; rfl⟩⟩
                            case measure => simp [RowKit.intOf]; omega
                        · have j3 : (qc.toList == code.toList) = false := by simpa using j1
                          clear j1
                          go_upto_region 21 with fail
                          have hm2 : (m : Int) + 1 ≤ 9223372036854775807 := by have := HN.out; unfold maxLen at this; omega
                          go_wp2_with fail
                          go_roundw
                          case rel => exact ⟨m + 1, by omega, by go_num, hid ⟨HV.out.1.alloc _, by rw [HT.out, HV.out.2, HDQ.out, j3]; rfl⟩⟩
                          case measure => simp [RowKit.intOf]; omega
                      · obtain rfl : m = k := by omega
                        have HUP := hid (show upB pla m = true by have := HV.out.2; rw [List.take_of_length_le (by simp; omega)] at this; rw [HU.out, HQB.out, this]; rfl)
                        go_upto_region 22 with fail
                        have hk2 : (m : Int) + 1 ≤ 9223372036854775807 := by have := HN.out; unfold maxLen at this; omega
                        go_wp2_with fail
                        go_roundw
                        case rel =>
                          exact ⟨m + 1, by omega, by go_num, hid ⟨HI.out.1.then HSQ.out, by rw [range_snoc, HI.out.2, HUP.out]; rfl⟩⟩
                        case measure => simp [RowKit.intOf]; omega
    · have hk1 : (pla.length : Int) ≤ (k : Int) := by omega
      obtain rfl : k = pla.length := by omega
      have HI2 := HI.out.2
      go_wp2_with fail
      go_ret
      exact ⟨ret_of (congrArg Value.bool (by rw [HPB.out, HI.out.2]; simp; omega)), HI.out.1⟩
end
end Go.Proofs.Ytmkcphhgimlkgaa

import Derived.Test.YtnejacmmbfeneaaDoorConfA
import Derived.Deep.Cut
namespace Go.Proofs.YtnejacmmbfeneaaDoor
open Go.RowKit Go.PlainAid

section
variable (w : World)

/-! ## Plans -/
def PlOk (w : World) (p : PL) : Prop := Sl w (fun _ => False) 1 p.K p.kinds.length (icellsC p.kinds) ∧ p.kinds.length ≤ maxLen ∧ p.code.size ≤ maxLen
theorem PlOk.same {w w' : World} {p : PL} (h : PlOk w p) (hk : Same w w') : PlOk w' p := ⟨h.1.same hk, h.2⟩
set_option maxRecDepth 100000 in
set_option maxHeartbeats 4000000 in
theorem plan_any (p : PL) (hp : PlOk w p) : Calls Tryd.prog 26 #[.agg p.cells.toArray] w fun r w' => r = .returned (.bool (planB p)) ∧ Same w w' := by
  have HK := hid hp.1
  have HL := hid hp.2.1
  have HC := hid (Code_any)
  have HCS := hid hp.2.2
  clear hp
  obtain ⟨code, urg, K, cc, kinds⟩ := p
  simp only [PL.cells] at *
  have HPB := hid (show planB ⟨code, urg, K, cc, kinds⟩ = (kinds.all kindB && codeB code && (decide (1 ≤ urg) && decide (urg ≤ 5)) && (decide (1 ≤ kinds.length) && decide (kinds.length ≤ 8))) from rfl)
  generalize planB ⟨code, urg, K, cc, kinds⟩ = pb at *
  have z0 := (Keep.refl (fun _ => False) w).alloc (.cells #[.string code, .int .i64 urg, .slice K kinds.length cc] 57)
  have HZ := hid z0
  clear z0
  go_enter Tryd.func26, Tryd.ntmps26
  go_wp2_with fail
  go_loopw [8] (fun i wr => ∃ k : Nat, k ≤ kinds.length ∧ i = .int .i64 k ∧ wr = w.alloc (.cells #[.string code, .int .i64 urg, .slice K kinds.length cc] 57) ∧ Hid ((kinds.take k).all kindB = true)) (fun i _ => kinds.length - (RowKit.intOf i).toNat)
  case atStart => exact ⟨0, by omega, rfl, rfl, hid (by simp)⟩
  case round =>
    obtain ⟨k, hk, rfl, rfl, HI⟩ := hrel
    by_cases hlt : k < kinds.length
    · obtain ⟨a, ha⟩ := get_some (l := kinds) (k := k) hlt
      obtain ⟨b, off, rfl, hb3, q0⟩ := ints_at (HK.out.same HZ.out) ha
      have HT := hid (take_all (p := kindB) ha)
      have HNo := hid (fun hp => all_no (p := kindB) ha hp)
      have hk1 : (k : Int) < (kinds.length : Int) := by omega
      clear ha
      by_cases i1 : a < 1
      · go_wp2_with fail
        go_ret
        exact ⟨ret_of (congrArg Value.bool (by rw [HPB.out, HNo.out (by simp [kindB]; omega)]; rfl)), HZ.out⟩
      · by_cases i2 : 4 < a
        · go_wp2_with fail
          go_ret
          exact ⟨ret_of (congrArg Value.bool (by rw [HPB.out, HNo.out (by simp [kindB]; omega)]; rfl)), HZ.out⟩
        · go_upto_region 6 with fail
          have hk2 : (k : Int) + 1 ≤ 9223372036854775807 := by have := HL.out; unfold maxLen at this; omega
          go_wp2_with fail
          go_roundw
          case rel => exact ⟨k + 1, by omega, by go_num, by trivial, hid (by rw [HT.out, HI.out]; simp [kindB]; omega)⟩
          case measure => simp [RowKit.intOf]; omega
    · have e1 : kinds.take k = kinds := List.take_of_length_le (by omega)
      have hk1 : (kinds.length : Int) ≤ (k : Int) := by omega
      have h2 := HI.out
      rw [e1] at h2
      have H2 := hid h2
      clear h2 e1
      by_cases g0 : codeB code = true
      rotate_left 1
      · have g0' : codeB code = false := by simpa using g0
        go_wp2_with (go_at_call 38; (with_reducible refine (HC.out _ _ HCS.out).mono ?_); rintro e w9 ⟨rfl, rfl⟩; rw [g0'])
        go_ret
        exact ⟨ret_of (congrArg Value.bool (by rw [HPB.out, H2.out, g0']; first | rfl | (simp; omega) | simp)), HZ.out⟩
      · by_cases g1 : 1 ≤ urg
        rotate_left 1
        · go_wp2_with (go_at_call 38; (with_reducible refine (HC.out _ _ HCS.out).mono ?_); rintro e w9 ⟨rfl, rfl⟩; rw [g0])
          go_ret
          exact ⟨ret_of (congrArg Value.bool (by rw [HPB.out, H2.out, g0]; simp only [show decide (1 ≤ urg) = false from decide_eq_false (by omega)]; first | rfl | (simp; omega) | simp)), HZ.out⟩
        · by_cases g2 : urg ≤ 5
          rotate_left 1
          · go_wp2_with (go_at_call 38; (with_reducible refine (HC.out _ _ HCS.out).mono ?_); rintro e w9 ⟨rfl, rfl⟩; rw [g0])
            go_ret
            exact ⟨ret_of (congrArg Value.bool (by rw [HPB.out, H2.out, g0]; simp only [show decide (1 ≤ urg) = true from decide_eq_true (by omega), show decide (urg ≤ 5) = false from decide_eq_false (by omega)]; first | rfl | (simp; omega) | simp)), HZ.out⟩
          · by_cases g3 : 1 ≤ (kinds.length : Int)
            rotate_left 1
            · go_wp2_with (go_at_call 38; (with_reducible refine (HC.out _ _ HCS.out).mono ?_); rintro e w9 ⟨rfl, rfl⟩; rw [g0])
              go_ret
              exact ⟨ret_of (congrArg Value.bool (by rw [HPB.out, H2.out, g0]; simp only [show decide (1 ≤ urg) = true from decide_eq_true (by omega), show decide (urg ≤ 5) = true from decide_eq_true (by omega), show decide (1 ≤ kinds.length) = false from decide_eq_false (by omega)]; first | rfl | (simp; omega) | simp)), HZ.out⟩
            · by_cases g4 : (kinds.length : Int) ≤ 8
              rotate_left 1
              · go_wp2_with (go_at_call 38; (with_reducible refine (HC.out _ _ HCS.out).mono ?_); rintro e w9 ⟨rfl, rfl⟩; rw [g0])
                go_ret
                exact ⟨ret_of (congrArg Value.bool (by rw [HPB.out, H2.out, g0]; simp only [show decide (1 ≤ urg) = true from decide_eq_true (by omega), show decide (urg ≤ 5) = true from decide_eq_true (by omega), show decide (1 ≤ kinds.length) = true from decide_eq_true (by omega), show decide (kinds.length ≤ 8) = false from decide_eq_false (by omega)]; first | rfl | (simp; omega) | simp)), HZ.out⟩
              · go_wp2_with (go_at_call 38; (with_reducible refine (HC.out _ _ HCS.out).mono ?_); rintro e w9 ⟨rfl, rfl⟩; rw [g0])
                go_ret
                exact ⟨ret_of (congrArg Value.bool (by rw [HPB.out, H2.out, g0]; simp only [show decide (1 ≤ urg) = true from decide_eq_true (by omega), show decide (urg ≤ 5) = true from decide_eq_true (by omega), show decide (1 ≤ kinds.length) = true from decide_eq_true (by omega), show decide (kinds.length ≤ 8) = true from decide_eq_true (by omega)]; first | rfl | (simp; omega) | simp)), HZ.out⟩
theorem upB_at {l : List PL} {k : Nat} {p : PL} (h : l[k]? = some p) : upB l k = (planB p && (l.take k).all (diffB p)) := by simp [upB, h]
theorem plans_at {w : World} {c : CF} (hm : CM w c) {k : Nat} {p : PL} (h : c.pla[k]? = some p) : PlOk w p := hm.kinds p (List.mem_of_getElem? h)
end
end Go.Proofs.YtnejacmmbfeneaaDoor

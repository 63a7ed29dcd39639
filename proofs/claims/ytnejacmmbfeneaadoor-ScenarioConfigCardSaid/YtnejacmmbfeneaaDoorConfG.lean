import Derived.Test.YtnejacmmbfeneaaDoorConfF
import Derived.Deep.Cut
namespace Go.Proofs.YtnejacmmbfeneaaDoor
open Go.RowKit Go.PlainAid

section
variable (w : World)

/-! ## Right -/
theorem CF.size (c : CF) : c.cells.toArray.size = 15 := rfl
structure CFc (W : World) (g : Nat) (c : CF) : Prop where
  c0 : W.cell? ⟨g, 0, none⟩ = some (.int .i64 c.cen)
  c1 : W.cell? ⟨g, 1, none⟩ = some (.slice c.D c.dis.length c.cD)
  c2 : W.cell? ⟨g, 2, none⟩ = some (.slice c.E c.edg.length c.cE)
  c3 : W.cell? ⟨g, 3, none⟩ = some (.slice c.U c.uni.length c.cU)
  c4 : W.cell? ⟨g, 4, none⟩ = some (.slice c.P c.pla.length c.cP)
  c5 : W.cell? ⟨g, 5, none⟩ = some (.int .i64 c.h0)
  c6 : W.cell? ⟨g, 6, none⟩ = some (.int .i64 c.h1)
  c7 : W.cell? ⟨g, 7, none⟩ = some (.int .i64 c.h2)
  c8 : W.cell? ⟨g, 8, none⟩ = some (.int .i64 c.h3)
  c9 : W.cell? ⟨g, 9, none⟩ = some (.int .i64 c.h4)
  c10 : W.cell? ⟨g, 10, none⟩ = some (.int .i64 c.h5)
  c11 : W.cell? ⟨g, 11, none⟩ = some (.int .i64 c.h6)
  c12 : W.cell? ⟨g, 12, none⟩ = some (.int .i64 c.h7)
  c13 : W.cell? ⟨g, 13, none⟩ = some (.int .i64 c.h8)
  c14 : W.cell? ⟨g, 14, none⟩ = some (.int .i64 c.h9)
  lt : g < W.heap.size
theorem cfc {W : World} {g : Nat} {c : CF} (h : Blk W g 30 c.cells.toArray) : CFc W g c :=
  ⟨h.at_ 0, h.at_ 1, h.at_ 2, h.at_ 3, h.at_ 4, h.at_ 5, h.at_ 6, h.at_ 7, h.at_ 8, h.at_ 9, h.at_ 10, h.at_ 11, h.at_ 12, h.at_ 13, h.at_ 14, h.lt⟩
theorem edgesB_no1 {c : CF} (h : c.edg.all (edgeB c.dis.length) = false) : edgesB c = false := by rw [edgesB, h]; rfl
theorem edgesB_no2 {c : CF} (h : 16384 < (c.edg.length : Int)) : edgesB c = false := by rw [edgesB, decide_eq_false (by omega), Bool.and_false]
theorem edgesB_ok {c : CF} (h : c.edg.all (edgeB c.dis.length) = true) (h2 : (c.edg.length : Int) ≤ 16384) : edgesB c = true := by rw [edgesB, h, decide_eq_true (by omega)]; rfl
theorem unitsB_no1 {c : CF} (h : c.uni.all (unitB c.cen c.dis.length) = false) : unitsB c = false := by rw [unitsB, h]; rfl
theorem unitsB_no2 {c : CF} (h : 256 < (c.uni.length : Int)) : unitsB c = false := by rw [unitsB, decide_eq_false (by omega), Bool.and_false]
theorem unitsB_ok {c : CF} (h : c.uni.all (unitB c.cen c.dis.length) = true) (h2 : (c.uni.length : Int) ≤ 256) : unitsB c = true := by rw [unitsB, h, decide_eq_true (by omega)]; rfl
theorem plansB_no1 {l : List PL} {k : Nat} (hk : k < l.length) (h : 64 ≤ (k : Int)) : plansB l = false := by rw [plansB, decide_eq_false (by omega)]; rfl
theorem plansB_no2 {l : List PL} {k : Nat} (hk : k < l.length) (h : upB l k = false) : plansB l = false := by rw [plansB, range_no hk h, Bool.and_false]
theorem plansB_ok {l : List PL} (h : (List.range l.length).all (upB l) = true) (h2 : l.length ≤ 64) : plansB l = true := by rw [plansB, h, decide_eq_true h2]; rfl
def numCells (c : CF) : Array Value := #[.int .i64 c.h0, .int .i64 c.h1, .int .i64 c.h2, .int .i64 c.h3, .int .i64 c.h4, .int .i64 c.h5, .int .i64 c.h6, .int .i64 c.h7, .int .i64 c.h8, .int .i64 c.h9]
theorem num_row (c : CF) {k : Nat} {lo hi : Int} (h : parLH[k]? = some (lo, hi)) : ∃ x, (parsL c)[k]? = some (lo, hi, x) ∧ (numCells c)[k]? = some (.int .i64 x) := by
  have hk : k < 10 := (List.getElem?_eq_some_iff.1 h).1
  obtain rfl | rfl | rfl | rfl | rfl | rfl | rfl | rfl | rfl | rfl : k = 0 ∨ k = 1 ∨ k = 2 ∨ k = 3 ∨ k = 4 ∨ k = 5 ∨ k = 6 ∨ k = 7 ∨ k = 8 ∨ k = 9 := by omega
  all_goals (cases Option.some.inj h; exact ⟨_, rfl, rfl⟩)
theorem lh_low {k : Nat} (h : k < 6) : parLH[k]? = some (1, 1048576) := by
  obtain rfl | rfl | rfl | rfl | rfl | rfl : k = 0 ∨ k = 1 ∨ k = 2 ∨ k = 3 ∨ k = 4 ∨ k = 5 := by omega
  all_goals rfl
def GoodC (c : CF) (n : Nat) : Prop := VB4 c ∧ (1 ≤ n → disB c = true) ∧ (2 ≤ n → edgesB c = true) ∧ (3 ≤ n → unitsB c = true) ∧ (4 ≤ n → plansB c.pla = true)
set_option maxRecDepth 100000 in
set_option maxHeartbeats 16000000 in
theorem right_any (c : CF) (hm : CM w c) : Calls Tryd.prog 9 #[.agg c.cells.toArray] w fun e w' => e = .returned (.int .i64 (vnum c)) ∧ Same w w' := by
  have hb0 := Blk.made w 30 c.cells.toArray
  have hw0 := (Keep.refl (fun _ => False) w).alloc (.cells c.cells.toArray 30)
  have HB := hid (fun W (hk : Same (w.alloc (.cells c.cells.toArray 30)) W) => cfc (hb0.keep (S := fun _ => False) hk (fun f => f)))
  have HW := hid hw0
  have HM := hid hm
  have HED := hid (fun W e => edge_any W c e)
  have HUN := hid (fun W e => unit_any W c e)
  have HPL := hid (fun W p => plan_any W p)
  have HNU := hid (fun W => numbers_any W c)
  have HWI := hid within_any
  clear hm
  have hb1 := cfc hb0
  clear hb0 hw0
  obtain ⟨cen, D, cD, dis, E, cE, edg, U, cU, uni, P, cP, pla, h0, h1, h2, h3, h4, h5, h6, h7, h8, h9⟩ := c
  obtain ⟨c0, c1, c2, c3, c4, c5, c6, c7, c8, c9, c10, c11, c12, c13, c14, hg⟩ := hb1
  simp only [CF.cells, E3.cells, PL.cells] at *
  by_cases k1 : 1 ≤ cen
  rotate_left 1
  · go_enter Tryd.func9, Tryd.ntmps9
    go_wp2_with fail
    go_ret
    exact ⟨ret_of (int_of (vnum1 (.inl (show ¬ 1 ≤ cen by omega)))), HW.out⟩
  by_cases k2 : cen ≤ 9
  rotate_left 1
  · go_enter Tryd.func9, Tryd.ntmps9
    go_wp2_with fail
    go_ret
    exact ⟨ret_of (int_of (vnum1 (.inr (show ¬ cen ≤ 9 by omega)))), HW.out⟩
  by_cases k3 : 1 ≤ (dis.length : Int)
  rotate_left 1
  · go_enter Tryd.func9, Tryd.ntmps9
    go_wp2_with fail
    go_ret
    exact ⟨ret_of (int_of (vnum2 k1 k2 (.inl (show ¬ 1 ≤ (dis.length : Int) by omega)))), HW.out⟩
  by_cases k4 : (dis.length : Int) ≤ 4096
  rotate_left 1
  · go_enter Tryd.func9, Tryd.ntmps9
    go_wp2_with fail
    go_ret
    exact ⟨ret_of (int_of (vnum2 k1 k2 (.inr (show ¬ (dis.length : Int) ≤ 4096 by omega)))), HW.out⟩
  have HF := hid (show VB4 ⟨cen, D, cD, dis, E, cE, edg, U, cU, uni, P, cP, pla, h0, h1, h2, h3, h4, h5, h6, h7, h8, h9⟩ from ⟨k1, k2, k3, k4⟩)
  go_enter Tryd.func9, Tryd.ntmps9
  go_wp2_with fail
  generalize hw1 : w.alloc (.cells #[.int .i64 cen, .slice D dis.length cD, .slice E edg.length cE, .slice U uni.length cU, .slice P pla.length cP, .int .i64 h0, .int .i64 h1, .int .i64 h2, .int .i64 h3, .int .i64 h4, .int .i64 h5, .int .i64 h6, .int .i64 h7, .int .i64 h8, .int .i64 h9] 30) = w1 at *
  clear hw1
  go_loopw [38] (fun i wr => ∃ k : Nat, k ≤ dis.length ∧ i = .int .i64 k ∧ wr = w1 ∧ Hid ((dis.take k).all (fun d => inB d cen) = true)) (fun i _ => dis.length - (RowKit.intOf i).toNat)
  case atStart => exact ⟨0, by omega, rfl, rfl, hid (by simp)⟩
  case round =>
    obtain ⟨k, hk, rfl, rfl, HI⟩ := hrel
    by_cases hlt : k < dis.length
    · obtain ⟨a, ha⟩ := get_some (l := dis) (k := k) hlt
      obtain ⟨b, off, rfl, hb3, q0⟩ := ints_at (HM.out.same HW.out).dis ha
      have HT := hid (take_all (p := fun d => inB d cen) ha)
      have HNo := hid (fun hp => all_no (p := fun d => inB d cen) ha hp)
      have hk1 : (k : Int) < (dis.length : Int) := by omega
      clear ha
      by_cases i1 : a < 0
      · go_wp2_with fail
        go_ret
        exact ⟨ret_of (int_of (vnum3 HF.out (HNo.out (by simp [inB]; omega)))), HW.out⟩
      · by_cases i2 : cen ≤ a
        · go_wp2_with fail
          go_ret
          exact ⟨ret_of (int_of (vnum3 HF.out (HNo.out (by simp [inB]; omega)))), HW.out⟩
        · go_upto_region 10 with fail
          have hk2 : (k : Int) + 1 ≤ 9223372036854775807 := by have := k4; omega
          go_wp2_with fail
          go_roundw
          case rel => exact ⟨k + 1, by omega, by go_num, by trivial, hid (by rw [HT.out, HI.out]; simp [inB]; omega)⟩
          case measure => simp [RowKit.intOf]; omega
    · have e1 : dis.take k = dis := List.take_of_length_le (by omega)
      have hk1 : (dis.length : Int) ≤ (k : Int) := by omega
      have hh2 := HI.out
      rw [e1] at hh2
      have HG0 := hid (show disB ⟨cen, D, cD, dis, E, cE, edg, U, cU, uni, P, cP, pla, h0, h1, h2, h3, h4, h5, h6, h7, h8, h9⟩ = true from hh2)
      clear hh2 e1 HI
      go_wp2_with fail
      clear hlt hk1 hk
      obtain ⟨w1, hw1⟩ : ∃ x, x = wr := ⟨_, rfl⟩
      subst hw1
      go_loopw [54] (fun i wr => ∃ k : Nat, k ≤ edg.length ∧ i = .int .i64 k ∧ Hid (Same w1 wr ∧ (edg.take k).all (edgeB dis.length) = true)) (fun i _ => edg.length - (RowKit.intOf i).toNat)
      case atStart => exact ⟨0, by omega, rfl, hid ⟨Keep.refl _ _, by simp⟩⟩
      case round =>
        obtain ⟨k, hk, rfl, HI⟩ := hrel
        clear c0 c1 c2 c3 c4 c5 c6 c7 c8 c9 c10 c11 c12 c13 c14 hg
        obtain ⟨c0, c1, c2, c3, c4, c5, c6, c7, c8, c9, c10, c11, c12, c13, c14, hg⟩ := HB.out wr HI.out.1
        simp only at c0 c1 c2 c3 c4 c5 c6 c7 c8 c9 c10 c11 c12 c13 c14
        by_cases hlt : k < edg.length
        · obtain ⟨a, ha⟩ := get_some (l := edg) (k := k) hlt
          obtain ⟨b, off, rfl, hb3, q0, q1, q2⟩ := e3_at (HM.out.same (HW.out.then HI.out.1)).edg ha
          have HT := hid (take_all (p := edgeB dis.length) ha)
          have HNo := hid (fun hp => all_no (p := edgeB dis.length) ha hp)
          have hk1 : (k : Int) < (edg.length : Int) := by omega
          clear ha
          have HX := hid (fun W => HED.out W a)
          by_cases i1 : (edgeB dis.length) a = true
          · go_upto_region 16 with (go_at_call 24; (with_reducible refine (HX.out _).mono ?_); rintro e w9 ⟨rfl, hs9⟩; rw [i1]; have HS9 := hid hs9; clear hs9)
            have hk2 : (k : Int) + 1 ≤ 9223372036854775807 := by have hl0 : edg.length ≤ maxLen := HM.out.lE; unfold maxLen at hl0; omega
            go_wp2_with fail
            go_roundw
            case rel => exact ⟨k + 1, by omega, by go_num, hid ⟨(HI.out.1.alloc _).then HS9.out, by rw [HT.out, HI.out.2, i1]; rfl⟩⟩
            case measure => simp [RowKit.intOf]; omega
          · have i1' : (edgeB dis.length) a = false := by simpa using i1
            clear i1
            go_wp2_with (go_at_call 24; (with_reducible refine (HX.out _).mono ?_); rintro e w9 ⟨rfl, hs9⟩; rw [i1']; have HS9 := hid hs9; clear hs9)
            go_ret
            exact ⟨ret_of (int_of (vnum4 HF.out HG0.out (edgesB_no1 (HNo.out i1')))), HW.out.then ((HI.out.1.alloc _).then HS9.out)⟩
        · have e1 : edg.take k = edg := List.take_of_length_le (by omega)
          have hk1 : (edg.length : Int) ≤ (k : Int) := by omega
          have hh2 := HI.out.2
          rw [e1] at hh2
          have H2 := hid hh2
          clear hh2 e1
          by_cases hmax : 16384 < (edg.length : Int)
          · go_wp2_with fail
            go_ret
            exact ⟨ret_of (int_of (vnum4 HF.out HG0.out (edgesB_no2 (c := ⟨cen, D, cD, dis, E, cE, edg, U, cU, uni, P, cP, pla, h0, h1, h2, h3, h4, h5, h6, h7, h8, h9⟩) hmax))), HW.out.then HI.out.1⟩
          · have HG1 := hid (edgesB_ok (c := ⟨cen, D, cD, dis, E, cE, edg, U, cU, uni, P, cP, pla, h0, h1, h2, h3, h4, h5, h6, h7, h8, h9⟩) H2.out (show (edg.length : Int) ≤ 16384 by omega))
            have hw2 := HI.out.1
            have HW2 := hid (HW.out.then hw2)
            have HB2 := hid (fun W (hk : Same wr W) => HB.out W (hw2.then hk))
            clear HB H2 HI HW hw2
            go_wp2_with fail
            clear hlt hk1 hk
            obtain ⟨w1, hw1⟩ : ∃ x, x = wr := ⟨_, rfl⟩
            subst hw1
            have HB := HB2
            have HW := HW2
            clear HB2 HW2
            go_loopw [70] (fun i wr => ∃ k : Nat, k ≤ uni.length ∧ i = .int .i64 k ∧ Hid (Same w1 wr ∧ (uni.take k).all (unitB cen dis.length) = true)) (fun i _ => uni.length - (RowKit.intOf i).toNat)
            case atStart => exact ⟨0, by omega, rfl, hid ⟨Keep.refl _ _, by simp⟩⟩
            case round =>
              obtain ⟨k, hk, rfl, HI⟩ := hrel
              clear c0 c1 c2 c3 c4 c5 c6 c7 c8 c9 c10 c11 c12 c13 c14 hg
              obtain ⟨c0, c1, c2, c3, c4, c5, c6, c7, c8, c9, c10, c11, c12, c13, c14, hg⟩ := HB.out wr HI.out.1
              simp only at c0 c1 c2 c3 c4 c5 c6 c7 c8 c9 c10 c11 c12 c13 c14
              by_cases hlt : k < uni.length
              · obtain ⟨a, ha⟩ := get_some (l := uni) (k := k) hlt
                obtain ⟨b, off, rfl, hb3, q0, q1, q2⟩ := e3_at (HM.out.same (HW.out.then HI.out.1)).uni ha
                have HT := hid (take_all (p := unitB cen dis.length) ha)
                have HNo := hid (fun hp => all_no (p := unitB cen dis.length) ha hp)
                have hk1 : (k : Int) < (uni.length : Int) := by omega
                clear ha
                have HX := hid (fun W => HUN.out W a)
                by_cases i1 : (unitB cen dis.length) a = true
                · go_upto_region 24 with (go_at_call 25; (with_reducible refine (HX.out _).mono ?_); rintro e w9 ⟨rfl, hs9⟩; rw [i1]; have HS9 := hid hs9; clear hs9)
                  have hk2 : (k : Int) + 1 ≤ 9223372036854775807 := by have hl0 : uni.length ≤ maxLen := HM.out.lU; unfold maxLen at hl0; omega
                  go_wp2_with fail
                  go_roundw
                  case rel => exact ⟨k + 1, by omega, by go_num, hid ⟨(HI.out.1.alloc _).then HS9.out, by rw [HT.out, HI.out.2, i1]; rfl⟩⟩
                  case measure => simp [RowKit.intOf]; omega
                · have i1' : (unitB cen dis.length) a = false := by simpa using i1
                  clear i1
                  go_wp2_with (go_at_call 25; (with_reducible refine (HX.out _).mono ?_); rintro e w9 ⟨rfl, hs9⟩; rw [i1']; have HS9 := hid hs9; clear hs9)
                  go_ret
                  exact ⟨ret_of (int_of (vnum5 HF.out HG0.out HG1.out (unitsB_no1 (HNo.out i1')))), HW.out.then ((HI.out.1.alloc _).then HS9.out)⟩
              · have e1 : uni.take k = uni := List.take_of_length_le (by omega)
                have hk1 : (uni.length : Int) ≤ (k : Int) := by omega
                have hh2 := HI.out.2
                rw [e1] at hh2
                have H2 := hid hh2
                clear hh2 e1
                by_cases hmax : 256 < (uni.length : Int)
                · go_wp2_with fail
                  go_ret
                  exact ⟨ret_of (int_of (vnum5 HF.out HG0.out HG1.out (unitsB_no2 (c := ⟨cen, D, cD, dis, E, cE, edg, U, cU, uni, P, cP, pla, h0, h1, h2, h3, h4, h5, h6, h7, h8, h9⟩) hmax))), HW.out.then HI.out.1⟩
                · have HG2 := hid (unitsB_ok (c := ⟨cen, D, cD, dis, E, cE, edg, U, cU, uni, P, cP, pla, h0, h1, h2, h3, h4, h5, h6, h7, h8, h9⟩) H2.out (show (uni.length : Int) ≤ 256 by omega))
                  have hw2 := HI.out.1
                  have HW2 := hid (HW.out.then hw2)
                  have HB2 := hid (fun W (hk : Same wr W) => HB.out W (hw2.then hk))
                  clear HB H2 HI HW hw2
                  go_wp2_with fail
                  clear hlt hk1 hk
                  obtain ⟨w1, hw1⟩ : ∃ x, x = wr := ⟨_, rfl⟩
                  subst hw1
                  have HB := HB2
                  have HW := HW2
                  clear HB2 HW2
                  go_loopw [86] (fun i wr => ∃ k : Nat, k ≤ pla.length ∧ i = .int .i64 k ∧ Hid (Same w1 wr ∧ (List.range k).all (upB pla) = true ∧ k ≤ 64)) (fun i _ => pla.length - (RowKit.intOf i).toNat)
                  case atStart => exact ⟨0, by omega, rfl, hid ⟨Keep.refl _ _, by simp, by omega⟩⟩
                  case round =>
                    obtain ⟨k, hk, rfl, HI⟩ := hrel
                    clear c0 c1 c2 c3 c4 c5 c6 c7 c8 c9 c10 c11 c12 c13 c14 hg
                    obtain ⟨c0, c1, c2, c3, c4, c5, c6, c7, c8, c9, c10, c11, c12, c13, c14, hg⟩ := HB.out wr HI.out.1
                    simp only at c0 c1 c2 c3 c4 c5 c6 c7 c8 c9 c10 c11 c12 c13 c14
                    have HN := hid (show pla.length ≤ maxLen from HM.out.lP)
                    have HCP := hid (show pla.length ≤ cP from HM.out.capP)
                    by_cases hlt : k < pla.length
                    · obtain ⟨a, ha⟩ := get_some (l := pla) (k := k) hlt
                      obtain ⟨b, off, rfl, hb3, q0, q1, q2⟩ := pl_at (HM.out.same (HW.out.then HI.out.1)).pla ha
                      have HU := hid (upB_at ha)
                      have hpk := (plans_at HM.out ha).same (HW.out.then HI.out.1)
                      have hk1 : (k : Int) < (pla.length : Int) := by omega
                      obtain ⟨code, urg, K, cc, kinds⟩ := a
                      simp only at q0 q1 q2
                      have HX := hid (fun W (hk : Same wr W) => HPL.out W ⟨code, urg, K, cc, kinds⟩ (hpk.same hk))
                      simp only at HX
                      have HDF := hid (show ∀ q, diffB ⟨code, urg, K, cc, kinds⟩ q = !(q.code.toList == code.toList && q.urg == urg) from fun q => rfl)
                      generalize hqb : planB ⟨code, urg, K, cc, kinds⟩ = qb at *
                      generalize hdf : diffB ⟨code, urg, K, cc, kinds⟩ = df at *
                      clear ha hpk hqb hdf
                      by_cases h64 : 64 ≤ (k : Int)
                      · go_wp2_with fail
                        go_ret
                        exact ⟨ret_of (int_of (vnum6 HF.out HG0.out HG1.out HG2.out (plansB_no1 hlt h64))), HW.out.then (HI.out.1.alloc _)⟩
                      · cases qb
                        · go_wp2_with (go_at_call 26; (with_reducible refine (HX.out _ (Keep.alloc (Keep.refl _ _) _)).mono ?_); rintro e w9 ⟨rfl, hs9⟩; have HS9 := hid hs9; clear hs9)
                          go_ret
                          exact ⟨ret_of (int_of (vnum6 HF.out HG0.out HG1.out HG2.out (plansB_no2 hlt (by rw [HU.out]; rfl)))), HW.out.then ((HI.out.1.alloc _).then HS9.out)⟩
                        · have hkc : (k : Int) ≤ (cP : Int) := by have := HCP.out; omega
                          go_upto_region 32 with (go_at_call 26; (with_reducible refine (HX.out _ (Keep.alloc (Keep.refl _ _) _)).mono ?_); rintro e w9 ⟨rfl, hs9⟩; have HS9 := hid hs9; have HK9 := hid ((HI.out.1.alloc _).then hs9); have HBO := hid ((Blk.made wr 57 #[.string code, .int .i64 urg, .slice K kinds.length cc]).keep (S := fun _ => False) hs9 (fun f => f)); clear hs9)
                          have HM9 := hid (HM.out.same (HW.out.then HK9.out))
                          have hgs : w.heap.size < w9.heap.size := by have := (HB.out w9 HK9.out).lt; exact this
                          clear c0 c1 c2 c3 c4 c5 c6 c7 c8 c9 c10 c11 c12 c13 c14 hg
                          obtain ⟨c0, c1, c2, c3, c4, c5, c6, c7, c8, c9, c10, c11, c12, c13, c14, hg⟩ := HB.out w9 HK9.out
                          simp only at c0 c1 c2 c3 c4 c5 c6 c7 c8 c9 c10 c11 c12 c13 c14
                          clear q0 q1 q2 hgs
                          go_wp2_with fail
                          go_loopw [103] (fun i wr => ∃ m : Nat, m ≤ k ∧ i = .int .i64 m ∧ Hid (Same w9 wr ∧ ((pla.take k).take m).all df = true)) (fun i _ => k - (RowKit.intOf i).toNat)
                          case atStart => exact ⟨0, by omega, rfl, hid ⟨Keep.refl _ _, by simp⟩⟩
                          case round =>
                            obtain ⟨m, hm, rfl, HV⟩ := hrel
                            have HBW := hid (HBO.out.keep (S := fun _ => False) HV.out.1 (fun f => f))
                            have d0 := HBW.out.at_ 0
                            have d1 := HBW.out.at_ 1
                            simp at d0 d1
                            have hlq := HBW.out.lt
                            by_cases hltm : m < k
                            · obtain ⟨q, hq⟩ := get_some (l := pla) (k := m) (by omega)
                              obtain ⟨b5, off5, e5, hb5, s0, s1, s2⟩ := pl_at (HM9.out.same HV.out.1).pla hq
                              injection e5 with e5
                              injection e5 with e5 e6
                              subst e5 e6
                              have hq2 : (pla.take k)[m]? = some q := by rw [List.getElem?_take, if_pos hltm]; exact hq
                              have HT := hid (take_all (p := df) hq2)
                              have HDo := hid (fun hp => all_no (p := df) hq2 hp)
                              have HDQ := hid (HDF.out q)
                              have hm1 : (m : Int) < (k : Int) := by omega
                              clear hq hq2
                              obtain ⟨qc, qu, qK, qcc, qk⟩ := q
                              simp only at s0 s1 s2 HDQ
                              by_cases j1 : (qc.toList == code.toList) = true
                              · by_cases j2 : (qu == urg) = true
                                · go_wp2_with fail
                                  go_ret
                                  exact ⟨ret_of (int_of (vnum6 HF.out HG0.out HG1.out HG2.out (plansB_no2 hlt (by rw [HU.out, HDo.out (by rw [HDQ.out, j1, j2]; rfl)]; rfl)))), HW.out.then ((HK9.out.then HV.out.1).alloc _)⟩
                                · have j3 : (qu == urg) = false := by simpa using j2
                                  clear j2
                                  go_upto_region 37 with fail
                                  have hm2 : (m : Int) + 1 ≤ 9223372036854775807 := by have := HN.out; unfold maxLen at this; omega
                                  go_wp2_with fail
                                  go_roundw
                                  case rel => exact ⟨m + 1, by omega, by go_num, hid ⟨HV.out.1.alloc _, by rw [HT.out, HV.out.2, HDQ.out, j1, j3]; rfl⟩⟩
                                  case measure => simp [RowKit.intOf]; omega
                              · have j3 : (qc.toList == code.toList) = false := by simpa using j1
                                clear j1
                                go_upto_region 37 with fail
                                have hm2 : (m : Int) + 1 ≤ 9223372036854775807 := by have := HN.out; unfold maxLen at this; omega
                                go_wp2_with fail
                                go_roundw
                                case rel => exact ⟨m + 1, by omega, by go_num, hid ⟨HV.out.1.alloc _, by rw [HT.out, HV.out.2, HDQ.out, j3]; rfl⟩⟩
                                case measure => simp [RowKit.intOf]; omega
                            · obtain rfl : m = k := by omega
                              have HUP := hid (show upB pla m = true by have := HV.out.2; rw [List.take_of_length_le (by simp; omega)] at this; rw [HU.out, this]; rfl)
                              go_upto_region 38 with fail
                              have hk2 : (m : Int) + 1 ≤ 9223372036854775807 := by omega
                              go_wp2_with fail
                              go_roundw
                              case rel => exact ⟨m + 1, by omega, by go_num, hid ⟨HK9.out.then HV.out.1, by rw [range_snoc, HI.out.2.1, HUP.out]; rfl, by omega⟩⟩
                              case measure => simp [RowKit.intOf]; omega
                    · have hk1 : (pla.length : Int) ≤ (k : Int) := by omega
                      obtain rfl : k = pla.length := by omega
                      have HG3 := hid (plansB_ok HI.out.2.1 HI.out.2.2)
                      have hw2 := HI.out.1
                      have HW2 := hid (HW.out.then hw2)
                      have HB2 := hid (fun W (hk : Same wr W) => HB.out W (hw2.then hk))
                      clear HB HI HW hw2
                      go_upto_region 39 with fail
                      clear hlt hk1 hk
                      obtain ⟨w1, hw1⟩ : ∃ x, x = wr := ⟨_, rfl⟩
                      subst hw1
                      have HB := HB2
                      have HW := HW2
                      clear HB2 HW2
                      have hpb : parB ⟨cen, D, cD, dis, E, cE, edg, U, cU, uni, P, cP, pla, h0, h1, h2, h3, h4, h5, h6, h7, h8, h9⟩ = (parsL ⟨cen, D, cD, dis, E, cE, edg, U, cU, uni, P, cP, pla, h0, h1, h2, h3, h4, h5, h6, h7, h8, h9⟩).all (fun x => rngB x.1 x.2.1 x.2.2) := rfl
                      have HPB := hid hpb
                      have HP := hid (fun k a (ha : (parsL ⟨cen, D, cD, dis, E, cE, edg, U, cU, uni, P, cP, pla, h0, h1, h2, h3, h4, h5, h6, h7, h8, h9⟩)[k]? = some a) => And.intro (take_all (p := fun x => rngB x.1 x.2.1 x.2.2) ha) (all_no (p := fun x => rngB x.1 x.2.1 x.2.2) ha))
                      have HPL2 := hid (show (parsL ⟨cen, D, cD, dis, E, cE, edg, U, cU, uni, P, cP, pla, h0, h1, h2, h3, h4, h5, h6, h7, h8, h9⟩).length = 10 from rfl)
                      have HNR := hid (fun k lo hi (h : parLH[k]? = some (lo, hi)) => num_row ⟨cen, D, cD, dis, E, cE, edg, U, cU, uni, P, cP, pla, h0, h1, h2, h3, h4, h5, h6, h7, h8, h9⟩ h)
                      have HNC := hid (show numCells ⟨cen, D, cD, dis, E, cE, edg, U, cU, uni, P, cP, pla, h0, h1, h2, h3, h4, h5, h6, h7, h8, h9⟩ = #[.int .i64 h0, .int .i64 h1, .int .i64 h2, .int .i64 h3, .int .i64 h4, .int .i64 h5, .int .i64 h6, .int .i64 h7, .int .i64 h8, .int .i64 h9] from rfl)
                      clear hpb
                      generalize numCells ⟨cen, D, cD, dis, E, cE, edg, U, cU, uni, P, cP, pla, h0, h1, h2, h3, h4, h5, h6, h7, h8, h9⟩ = NC at *
                      generalize parsL ⟨cen, D, cD, dis, E, cE, edg, U, cU, uni, P, cP, pla, h0, h1, h2, h3, h4, h5, h6, h7, h8, h9⟩ = L at *
                      try simp only at HNU
                      go_wp2_with (go_at_call 21; (with_reducible refine (HNU.out _).mono ?_); rintro e w2 ⟨⟨gq, rfl, hgq, hbq⟩, hs2⟩; have HS2 := hid hs2; have HBQ := hid hbq; clear hs2 hbq hgq)
                      clear c0 c1 c2 c3 c4 c5 c6 c7 c8 c9 c10 c11 c12 c13 c14 hg HNU HPL HUN HED HM HB
                      rw [← HNC.out] at HBQ
                      clear HNC
                      go_loopw [124] (fun i wr => ∃ k : Nat, k ≤ 10 ∧ i = .int .i64 k ∧ Hid (Same w2 wr ∧ (L.take k).all (fun x => rngB x.1 x.2.1 x.2.2) = true)) (fun i _ => 10 - (RowKit.intOf i).toNat)
                      case atStart => exact ⟨0, by omega, rfl, hid ⟨Keep.refl _ _, by simp⟩⟩
                      case round =>
                        obtain ⟨k, hk, rfl, HI⟩ := hrel
                        by_cases hlt : k < 10
                        · by_cases hlow : k < 6
                          · obtain ⟨x, hx1, hx2⟩ := HNR.out k _ _ (lh_low hlow)
                            have f6 : ((k : Int) == 6) = false := by simp; omega
                            have f7 : ((k : Int) == 7) = false := by simp; omega
                            have f8 : ((k : Int) == 8) = false := by simp; omega
                            have f9 : ((k : Int) == 9) = false := by simp; omega
                            have HX := hid (HP.out _ _ hx1)
                            have hbw := HBQ.out.keep (S := fun _ => False) HI.out.1 (fun f => f)
                            have q0 := (hbw.at_ _).trans hx2
                            have hgl := hbw.lt
                            clear hbw hx1 hx2
                            by_cases i1 : rngB 1 1048576 x = true
                            · go_upto_region 53 with (go_at_call 27; (with_reducible refine (HWI.out _ _ _ _).mono ?_); rintro e w9 ⟨rfl, rfl⟩; rw [i1])
                              go_wp2_with fail
                              go_roundw
                              case rel => exact ⟨k + 1, by omega, by first | rfl | go_num, hid ⟨HI.out.1, HX.out.1.trans (by rw [HI.out.2]; exact i1)⟩⟩
                              case measure => simp [RowKit.intOf] <;> omega
                            · have i2 : rngB 1 1048576 x = false := by simpa using i1
                              clear i1
                              go_wp2_with (go_at_call 27; (with_reducible refine (HWI.out _ _ _ _).mono ?_); rintro e w9 ⟨rfl, rfl⟩; rw [i2])
                              go_ret
                              exact ⟨ret_of (int_of (vnum7 HF.out HG0.out HG1.out HG2.out HG3.out (by rw [HPB.out]; exact HX.out.2 i2))), HW.out.then (HS2.out.then HI.out.1)⟩
                          · obtain rfl | rfl | rfl | rfl : k = 6 ∨ k = 7 ∨ k = 8 ∨ k = 9 := by omega
                            · obtain ⟨x, hx1, hx2⟩ := HNR.out 6 _ _ rfl
                              have HX := hid (HP.out _ _ hx1)
                              have hbw := HBQ.out.keep (S := fun _ => False) HI.out.1 (fun f => f)
                              have q0 := (hbw.at_ _).trans hx2
                              have hgl := hbw.lt
                              clear hbw hx1 hx2
                              by_cases i1 : rngB 0 1099511627776 x = true
                              · go_upto_region 53 with (go_at_call 27; (with_reducible refine (HWI.out _ _ _ _).mono ?_); rintro e w9 ⟨rfl, rfl⟩; rw [i1])
                                go_wp2_with fail
                                go_roundw
                                case rel => exact ⟨7, by omega, by first | rfl | go_num, hid ⟨HI.out.1, HX.out.1.trans (by rw [HI.out.2]; exact i1)⟩⟩
                                case measure => simp [RowKit.intOf] <;> omega
                              · have i2 : rngB 0 1099511627776 x = false := by simpa using i1
                                clear i1
                                go_wp2_with (go_at_call 27; (with_reducible refine (HWI.out _ _ _ _).mono ?_); rintro e w9 ⟨rfl, rfl⟩; rw [i2])
                                go_ret
                                exact ⟨ret_of (int_of (vnum7 HF.out HG0.out HG1.out HG2.out HG3.out (by rw [HPB.out]; exact HX.out.2 i2))), HW.out.then (HS2.out.then HI.out.1)⟩
                            · obtain ⟨x, hx1, hx2⟩ := HNR.out 7 _ _ rfl
                              have HX := hid (HP.out _ _ hx1)
                              have hbw := HBQ.out.keep (S := fun _ => False) HI.out.1 (fun f => f)
                              have q0 := (hbw.at_ _).trans hx2
                              have hgl := hbw.lt
                              clear hbw hx1 hx2
                              by_cases i1 : rngB 0 1099511627776 x = true
                              · go_upto_region 53 with (go_at_call 27; (with_reducible refine (HWI.out _ _ _ _).mono ?_); rintro e w9 ⟨rfl, rfl⟩; rw [i1])
                                go_wp2_with fail
                                go_roundw
                                case rel => exact ⟨8, by omega, by first | rfl | go_num, hid ⟨HI.out.1, HX.out.1.trans (by rw [HI.out.2]; exact i1)⟩⟩
                                case measure => simp [RowKit.intOf] <;> omega
                              · have i2 : rngB 0 1099511627776 x = false := by simpa using i1
                                clear i1
                                go_wp2_with (go_at_call 27; (with_reducible refine (HWI.out _ _ _ _).mono ?_); rintro e w9 ⟨rfl, rfl⟩; rw [i2])
                                go_ret
                                exact ⟨ret_of (int_of (vnum7 HF.out HG0.out HG1.out HG2.out HG3.out (by rw [HPB.out]; exact HX.out.2 i2))), HW.out.then (HS2.out.then HI.out.1)⟩
                            · obtain ⟨x, hx1, hx2⟩ := HNR.out 8 _ _ rfl
                              have HX := hid (HP.out _ _ hx1)
                              have hbw := HBQ.out.keep (S := fun _ => False) HI.out.1 (fun f => f)
                              have q0 := (hbw.at_ _).trans hx2
                              have hgl := hbw.lt
                              clear hbw hx1 hx2
                              by_cases i1 : rngB 0 256 x = true
                              · go_upto_region 53 with (go_at_call 27; (with_reducible refine (HWI.out _ _ _ _).mono ?_); rintro e w9 ⟨rfl, rfl⟩; rw [i1])
                                go_wp2_with fail
                                go_roundw
                                case rel => exact ⟨9, by omega, by first | rfl | go_num, hid ⟨HI.out.1, HX.out.1.trans (by rw [HI.out.2]; exact i1)⟩⟩
                                case measure => simp [RowKit.intOf] <;> omega
                              · have i2 : rngB 0 256 x = false := by simpa using i1
                                clear i1
                                go_wp2_with (go_at_call 27; (with_reducible refine (HWI.out _ _ _ _).mono ?_); rintro e w9 ⟨rfl, rfl⟩; rw [i2])
                                go_ret
                                exact ⟨ret_of (int_of (vnum7 HF.out HG0.out HG1.out HG2.out HG3.out (by rw [HPB.out]; exact HX.out.2 i2))), HW.out.then (HS2.out.then HI.out.1)⟩
                            · obtain ⟨x, hx1, hx2⟩ := HNR.out 9 _ _ rfl
                              have HX := hid (HP.out _ _ hx1)
                              have hbw := HBQ.out.keep (S := fun _ => False) HI.out.1 (fun f => f)
                              have q0 := (hbw.at_ _).trans hx2
                              have hgl := hbw.lt
                              clear hbw hx1 hx2
                              by_cases i1 : rngB 1 4096 x = true
                              · go_upto_region 53 with (go_at_call 27; (with_reducible refine (HWI.out _ _ _ _).mono ?_); rintro e w9 ⟨rfl, rfl⟩; rw [i1])
                                go_wp2_with fail
                                go_roundw
                                case rel => exact ⟨10, by omega, by first | rfl | go_num, hid ⟨HI.out.1, HX.out.1.trans (by rw [HI.out.2]; exact i1)⟩⟩
                                case measure => simp [RowKit.intOf] <;> omega
                              · have i2 : rngB 1 4096 x = false := by simpa using i1
                                clear i1
                                go_wp2_with (go_at_call 27; (with_reducible refine (HWI.out _ _ _ _).mono ?_); rintro e w9 ⟨rfl, rfl⟩; rw [i2])
                                go_ret
                                exact ⟨ret_of (int_of (vnum7 HF.out HG0.out HG1.out HG2.out HG3.out (by rw [HPB.out]; exact HX.out.2 i2))), HW.out.then (HS2.out.then HI.out.1)⟩
                        · obtain rfl : k = 10 := by omega
                          have hf := HI.out.2
                          rw [List.take_of_length_le (by rw [HPL2.out]; omega), ← HPB.out] at hf
                          have HFN := hid hf
                          clear hf
                          go_wp2_with fail
                          go_ret
                          exact ⟨ret_of (int_of (vnum0 HF.out HG0.out HG1.out HG2.out HG3.out HFN.out)), HW.out.then (HS2.out.then HI.out.1)⟩
end
end Go.Proofs.YtnejacmmbfeneaaDoor

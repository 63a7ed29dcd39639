import Derived.Test.YtkkenfgpmoediaaCallA
namespace Go.Proofs.Ytkkenfgpmoediaa
open Go.RowKit

/-! ## The operations of the reference's line -/
def RefPost (w : World) (Av : Nat → Prop) (s : CL) (er : Int) (e : Ending) (w' : World) : Prop :=
  ∃ A c, e = .returned (.tuple #[.agg (s.cells A c).toArray, .int .i64 er]) ∧ Sl w' Av 1 A s.ans.length (icells s.ans) ∧ Same w w'
section
variable (w : World) (Av : Nat → Prop) (A : Option Addr) (c : Nat) (s : CL) (h : Sl w Av 1 A s.ans.length (icells s.ans))
include h
set_option maxHeartbeats 1000000 in
theorem rbind_any (x e t : Int) : Calls Try.prog 29 #[.agg (s.cells A c).toArray, .int .i64 x, .int .i64 e, .int .i64 t] w (RefPost w Av (assignS s x e t) (assignE s x e t)) := by
  have HT := hid number_any
  obtain ⟨call, st, since, cen, ep, name, ver, ans⟩ := s
  have H := hid h
  clear h
  simp only [CL.cells]
  by_cases hx0 : x < 0
  · have hbx : vC x = false := by simp only [vC, Bool.and_eq_false_iff, decide_eq_false_iff_not]; omega
    have hE : assignE ⟨call, st, since, cen, ep, name, ver, ans⟩ x e t = 1 := by simp [assignE, hbx]
    have hS : assignS ⟨call, st, since, cen, ep, name, ver, ans⟩ x e t = ⟨call, st, since, cen, ep, name, ver, ans⟩ := by unfold assignS; rw [hE]; simp
    rw [hE, hS]
    clear hE hS
    go_enter Try.func29, Try.ntmps29
    go_wp2_with (go_at_call 24; refine (HT.out _ _ _).mono ?_; rintro e1 w1 ⟨rfl, rfl⟩; first | rw [hbe] | rw [hbt])
    refine bodyPost_ret (v := .tuple #[.agg #[.int .i64 (call), .int .i64 (st), .int .i64 (since), .int .i64 (cen), .int .i64 (ep), .string (name), .int .i64 (ver), .slice A ans.length c], .int .i64 1]) (by simp [results, Try.results29, go_sem] <;> omega) rfl ⟨A, c, rfl, H.out.same (((Keep.refl _ w).alloc _).alloc _), ((Keep.refl _ w).alloc _).alloc _⟩
  · by_cases hx9 : 9 ≤ x
    · have hbx : vC x = false := by simp only [vC, Bool.and_eq_false_iff, decide_eq_false_iff_not]; omega
      have hE : assignE ⟨call, st, since, cen, ep, name, ver, ans⟩ x e t = 1 := by simp [assignE, hbx]
      have hS : assignS ⟨call, st, since, cen, ep, name, ver, ans⟩ x e t = ⟨call, st, since, cen, ep, name, ver, ans⟩ := by unfold assignS; rw [hE]; simp
      rw [hE, hS]
      clear hE hS
      go_enter Try.func29, Try.ntmps29
      go_wp2_with (go_at_call 24; refine (HT.out _ _ _).mono ?_; rintro e1 w1 ⟨rfl, rfl⟩; first | rw [hbe] | rw [hbt])
      refine bodyPost_ret (v := .tuple #[.agg #[.int .i64 (call), .int .i64 (st), .int .i64 (since), .int .i64 (cen), .int .i64 (ep), .string (name), .int .i64 (ver), .slice A ans.length c], .int .i64 1]) (by simp [results, Try.results29, go_sem] <;> omega) rfl ⟨A, c, rfl, H.out.same (((Keep.refl _ w).alloc _).alloc _), ((Keep.refl _ w).alloc _).alloc _⟩
    · have hbx : vC x = true := by simp only [vC, Bool.and_eq_true, decide_eq_true_eq]; omega
      obtain ⟨be, hbe⟩ : ∃ bb, (vN e 1) = bb := ⟨_, rfl⟩
      cases be with
      | false =>
        have hE : assignE ⟨call, st, since, cen, ep, name, ver, ans⟩ x e t = 1 := by simp [assignE, hbx, hbe]
        have hS : assignS ⟨call, st, since, cen, ep, name, ver, ans⟩ x e t = ⟨call, st, since, cen, ep, name, ver, ans⟩ := by unfold assignS; rw [hE]; simp
        rw [hE, hS]
        clear hE hS
        go_enter Try.func29, Try.ntmps29
        go_wp2_with (go_at_call 24; refine (HT.out _ _ _).mono ?_; rintro e1 w1 ⟨rfl, rfl⟩; first | rw [hbe] | rw [hbt])
        refine bodyPost_ret (v := .tuple #[.agg #[.int .i64 (call), .int .i64 (st), .int .i64 (since), .int .i64 (cen), .int .i64 (ep), .string (name), .int .i64 (ver), .slice A ans.length c], .int .i64 1]) (by simp [results, Try.results29, go_sem] <;> omega) rfl ⟨A, c, rfl, H.out.same (((Keep.refl _ w).alloc _).alloc _), ((Keep.refl _ w).alloc _).alloc _⟩
      | true =>
        obtain ⟨bt, hbt⟩ : ∃ bb, (vN t 0) = bb := ⟨_, rfl⟩
        cases bt with
        | false =>
          have hE : assignE ⟨call, st, since, cen, ep, name, ver, ans⟩ x e t = 1 := by simp [assignE, hbx, hbe, hbt]
          have hS : assignS ⟨call, st, since, cen, ep, name, ver, ans⟩ x e t = ⟨call, st, since, cen, ep, name, ver, ans⟩ := by unfold assignS; rw [hE]; simp
          rw [hE, hS]
          clear hE hS
          go_enter Try.func29, Try.ntmps29
          go_wp2_with (go_at_call 24; refine (HT.out _ _ _).mono ?_; rintro e1 w1 ⟨rfl, rfl⟩; first | rw [hbe] | rw [hbt])
          refine bodyPost_ret (v := .tuple #[.agg #[.int .i64 (call), .int .i64 (st), .int .i64 (since), .int .i64 (cen), .int .i64 (ep), .string (name), .int .i64 (ver), .slice A ans.length c], .int .i64 1]) (by simp [results, Try.results29, go_sem] <;> omega) rfl ⟨A, c, rfl, H.out.same (((Keep.refl _ w).alloc _).alloc _), ((Keep.refl _ w).alloc _).alloc _⟩
        | true =>
          by_cases h1 : e ≤ ep
          · have hE : assignE ⟨call, st, since, cen, ep, name, ver, ans⟩ x e t = 9 := by simp [assignE, hbx, hbe, hbt, h1]
            have hS : assignS ⟨call, st, since, cen, ep, name, ver, ans⟩ x e t = ⟨call, st, since, cen, ep, name, ver, ans⟩ := by unfold assignS; rw [hE]; simp
            rw [hE, hS]
            clear hE hS
            go_enter Try.func29, Try.ntmps29
            go_wp2_with (go_at_call 24; refine (HT.out _ _ _).mono ?_; rintro e1 w1 ⟨rfl, rfl⟩; first | rw [hbe] | rw [hbt])
            refine bodyPost_ret (v := .tuple #[.agg #[.int .i64 (call), .int .i64 (st), .int .i64 (since), .int .i64 (cen), .int .i64 (ep), .string (name), .int .i64 (ver), .slice A ans.length c], .int .i64 9]) (by simp [results, Try.results29, go_sem] <;> omega) rfl ⟨A, c, rfl, H.out.same (((Keep.refl _ w).alloc _).alloc _), ((Keep.refl _ w).alloc _).alloc _⟩
          · by_cases hst5 : st = 5
            · have ghst5 : (st == (5 : Int)) = true := by simpa using hst5
              have hE : assignE ⟨call, st, since, cen, ep, name, ver, ans⟩ x e t = 8 := by simp [assignE, hbx, hbe, hbt, h1, hst5]
              have hS : assignS ⟨call, st, since, cen, ep, name, ver, ans⟩ x e t = ⟨call, st, since, cen, ep, name, ver, ans⟩ := by unfold assignS; rw [hE]; simp [hst5]
              rw [hE, hS]
              clear hE hS
              go_enter Try.func29, Try.ntmps29
              go_wp2_with (go_at_call 24; refine (HT.out _ _ _).mono ?_; rintro e1 w1 ⟨rfl, rfl⟩; first | rw [hbe] | rw [hbt])
              refine bodyPost_ret (v := .tuple #[.agg #[.int .i64 (call), .int .i64 (st), .int .i64 (since), .int .i64 (cen), .int .i64 (ep), .string (name), .int .i64 (ver), .slice A ans.length c], .int .i64 8]) (by simp [results, Try.results29, go_sem] <;> omega) rfl ⟨A, c, rfl, H.out.same (((Keep.refl _ w).alloc _).alloc _), ((Keep.refl _ w).alloc _).alloc _⟩
            · have ghst5 : (st == (5 : Int)) = false := by simpa using hst5
              by_cases hst2 : st = 2
              · have ghst2 : (st == (2 : Int)) = true := by simpa using hst2
                have hE : assignE ⟨call, st, since, cen, ep, name, ver, ans⟩ x e t = 0 := by simp [assignE, hbx, hbe, hbt, h1, hst2]
                have hS : assignS ⟨call, st, since, cen, ep, name, ver, ans⟩ x e t = ⟨call, 1, t, x, e, name, ver, ans⟩ := by unfold assignS; rw [hE]; simp [hst2]
                rw [hE, hS]
                clear hE hS
                go_enter Try.func29, Try.ntmps29
                go_wp2_with (go_at_call 24; refine (HT.out _ _ _).mono ?_; rintro e1 w1 ⟨rfl, rfl⟩; first | rw [hbe] | rw [hbt])
                refine bodyPost_ret (v := .tuple #[.agg #[.int .i64 (call), .int .i64 (1), .int .i64 (t), .int .i64 (x), .int .i64 (e), .string (name), .int .i64 (ver), .slice A ans.length c], .int .i64 0]) (by simp [results, Try.results29, go_sem] <;> omega) rfl ⟨A, c, rfl, H.out.same (((Keep.refl _ w).alloc _).alloc _), ((Keep.refl _ w).alloc _).alloc _⟩
              · have ghst2 : (st == (2 : Int)) = false := by simpa using hst2
                by_cases hst4 : st = 4
                · have ghst4 : (st == (4 : Int)) = true := by simpa using hst4
                  have hE : assignE ⟨call, st, since, cen, ep, name, ver, ans⟩ x e t = 0 := by simp [assignE, hbx, hbe, hbt, h1, hst4]
                  have hS : assignS ⟨call, st, since, cen, ep, name, ver, ans⟩ x e t = ⟨call, 3, t, x, e, name, ver, ans⟩ := by unfold assignS; rw [hE]; simp [hst4]
                  rw [hE, hS]
                  clear hE hS
                  go_enter Try.func29, Try.ntmps29
                  go_wp2_with (go_at_call 24; refine (HT.out _ _ _).mono ?_; rintro e1 w1 ⟨rfl, rfl⟩; first | rw [hbe] | rw [hbt])
                  refine bodyPost_ret (v := .tuple #[.agg #[.int .i64 (call), .int .i64 (3), .int .i64 (t), .int .i64 (x), .int .i64 (e), .string (name), .int .i64 (ver), .slice A ans.length c], .int .i64 0]) (by simp [results, Try.results29, go_sem] <;> omega) rfl ⟨A, c, rfl, H.out.same (((Keep.refl _ w).alloc _).alloc _), ((Keep.refl _ w).alloc _).alloc _⟩
                · have ghst4 : (st == (4 : Int)) = false := by simpa using hst4
                  have hE : assignE ⟨call, st, since, cen, ep, name, ver, ans⟩ x e t = 0 := by simp [assignE, hbx, hbe, hbt, h1, hst5]
                  have hS : assignS ⟨call, st, since, cen, ep, name, ver, ans⟩ x e t = ⟨call, st, since, x, e, name, ver, ans⟩ := by unfold assignS; rw [hE]; simp [hst2, hst4]
                  rw [hE, hS]
                  clear hE hS
                  go_enter Try.func29, Try.ntmps29
                  go_wp2_with (go_at_call 24; refine (HT.out _ _ _).mono ?_; rintro e1 w1 ⟨rfl, rfl⟩; first | rw [hbe] | rw [hbt])
                  refine bodyPost_ret (v := .tuple #[.agg #[.int .i64 (call), .int .i64 (st), .int .i64 (since), .int .i64 (x), .int .i64 (e), .string (name), .int .i64 (ver), .slice A ans.length c], .int .i64 0]) (by simp [results, Try.results29, go_sem] <;> omega) rfl ⟨A, c, rfl, H.out.same (((Keep.refl _ w).alloc _).alloc _), ((Keep.refl _ w).alloc _).alloc _⟩

set_option maxHeartbeats 1000000 in
theorem ranswer_any (e : Int) (nm : ByteArray) (v : Int) : Calls Try.prog 30 #[.agg (s.cells A c).toArray, .int .i64 e, .string nm, .int .i64 v] w (RefPost w Av (acceptS s e nm v) (acceptE s e nm v)) := by
  have HT := hid number_any
  obtain ⟨call, st, since, cen, ep, name, ver, ans⟩ := s
  have H := hid h
  clear h
  simp only [CL.cells]
  obtain ⟨be, hbe⟩ : ∃ bb, (vN e 1) = bb := ⟨_, rfl⟩
  cases be with
  | false =>
    have hE : acceptE ⟨call, st, since, cen, ep, name, ver, ans⟩ e nm v = 1 := by simp [acceptE, hbe]
    have hS : acceptS ⟨call, st, since, cen, ep, name, ver, ans⟩ e nm v = ⟨call, st, since, cen, ep, name, ver, ans⟩ := by unfold acceptS; rw [hE]; simp
    rw [hE, hS]
    clear hE hS
    go_enter Try.func30, Try.ntmps30
    go_wp2_with (go_at_call 24; refine (HT.out _ _ _).mono ?_; rintro e1 w1 ⟨rfl, rfl⟩; first | rw [hbe] | rw [hbt])
    refine bodyPost_ret (v := .tuple #[.agg #[.int .i64 (call), .int .i64 (st), .int .i64 (since), .int .i64 (cen), .int .i64 (ep), .string (name), .int .i64 (ver), .slice A ans.length c], .int .i64 1]) (by simp [results, Try.results30, go_sem] <;> omega) rfl ⟨A, c, rfl, H.out.same (((Keep.refl _ w).alloc _).alloc _), ((Keep.refl _ w).alloc _).alloc _⟩
  | true =>
    by_cases hp1 : (nm.size : Int) < 1
    · have hbp : vP nm.size v = false := by simp only [vP, Bool.and_eq_false_iff, decide_eq_false_iff_not]; omega
      have hE : acceptE ⟨call, st, since, cen, ep, name, ver, ans⟩ e nm v = 1 := by simp [acceptE, hbe, hbp]
      have hS : acceptS ⟨call, st, since, cen, ep, name, ver, ans⟩ e nm v = ⟨call, st, since, cen, ep, name, ver, ans⟩ := by unfold acceptS; rw [hE]; simp
      rw [hE, hS]
      clear hE hS
      go_enter Try.func30, Try.ntmps30
      go_wp2_with (go_at_call 24; refine (HT.out _ _ _).mono ?_; rintro e1 w1 ⟨rfl, rfl⟩; first | rw [hbe] | rw [hbt])
      refine bodyPost_ret (v := .tuple #[.agg #[.int .i64 (call), .int .i64 (st), .int .i64 (since), .int .i64 (cen), .int .i64 (ep), .string (name), .int .i64 (ver), .slice A ans.length c], .int .i64 1]) (by simp [results, Try.results30, go_sem] <;> omega) rfl ⟨A, c, rfl, H.out.same (((Keep.refl _ w).alloc _).alloc _), ((Keep.refl _ w).alloc _).alloc _⟩
    · by_cases hp2 : 40 < (nm.size : Int)
      · have hbp : vP nm.size v = false := by simp only [vP, Bool.and_eq_false_iff, decide_eq_false_iff_not]; omega
        have hE : acceptE ⟨call, st, since, cen, ep, name, ver, ans⟩ e nm v = 1 := by simp [acceptE, hbe, hbp]
        have hS : acceptS ⟨call, st, since, cen, ep, name, ver, ans⟩ e nm v = ⟨call, st, since, cen, ep, name, ver, ans⟩ := by unfold acceptS; rw [hE]; simp
        rw [hE, hS]
        clear hE hS
        go_enter Try.func30, Try.ntmps30
        go_wp2_with (go_at_call 24; refine (HT.out _ _ _).mono ?_; rintro e1 w1 ⟨rfl, rfl⟩; first | rw [hbe] | rw [hbt])
        refine bodyPost_ret (v := .tuple #[.agg #[.int .i64 (call), .int .i64 (st), .int .i64 (since), .int .i64 (cen), .int .i64 (ep), .string (name), .int .i64 (ver), .slice A ans.length c], .int .i64 1]) (by simp [results, Try.results30, go_sem] <;> omega) rfl ⟨A, c, rfl, H.out.same (((Keep.refl _ w).alloc _).alloc _), ((Keep.refl _ w).alloc _).alloc _⟩
      · by_cases hp3 : v < 1
        · have hbp : vP nm.size v = false := by simp only [vP, Bool.and_eq_false_iff, decide_eq_false_iff_not]; omega
          have hE : acceptE ⟨call, st, since, cen, ep, name, ver, ans⟩ e nm v = 1 := by simp [acceptE, hbe, hbp]
          have hS : acceptS ⟨call, st, since, cen, ep, name, ver, ans⟩ e nm v = ⟨call, st, since, cen, ep, name, ver, ans⟩ := by unfold acceptS; rw [hE]; simp
          rw [hE, hS]
          clear hE hS
          go_enter Try.func30, Try.ntmps30
          go_wp2_with (go_at_call 24; refine (HT.out _ _ _).mono ?_; rintro e1 w1 ⟨rfl, rfl⟩; first | rw [hbe] | rw [hbt])
          refine bodyPost_ret (v := .tuple #[.agg #[.int .i64 (call), .int .i64 (st), .int .i64 (since), .int .i64 (cen), .int .i64 (ep), .string (name), .int .i64 (ver), .slice A ans.length c], .int .i64 1]) (by simp [results, Try.results30, go_sem] <;> omega) rfl ⟨A, c, rfl, H.out.same (((Keep.refl _ w).alloc _).alloc _), ((Keep.refl _ w).alloc _).alloc _⟩
        · by_cases hp4 : 1048576 < v
          · have hbp : vP nm.size v = false := by simp only [vP, Bool.and_eq_false_iff, decide_eq_false_iff_not]; omega
            have hE : acceptE ⟨call, st, since, cen, ep, name, ver, ans⟩ e nm v = 1 := by simp [acceptE, hbe, hbp]
            have hS : acceptS ⟨call, st, since, cen, ep, name, ver, ans⟩ e nm v = ⟨call, st, since, cen, ep, name, ver, ans⟩ := by unfold acceptS; rw [hE]; simp
            rw [hE, hS]
            clear hE hS
            go_enter Try.func30, Try.ntmps30
            go_wp2_with (go_at_call 24; refine (HT.out _ _ _).mono ?_; rintro e1 w1 ⟨rfl, rfl⟩; first | rw [hbe] | rw [hbt])
            refine bodyPost_ret (v := .tuple #[.agg #[.int .i64 (call), .int .i64 (st), .int .i64 (since), .int .i64 (cen), .int .i64 (ep), .string (name), .int .i64 (ver), .slice A ans.length c], .int .i64 1]) (by simp [results, Try.results30, go_sem] <;> omega) rfl ⟨A, c, rfl, H.out.same (((Keep.refl _ w).alloc _).alloc _), ((Keep.refl _ w).alloc _).alloc _⟩
          · have hbp : vP nm.size v = true := by simp only [vP, Bool.and_eq_true, decide_eq_true_eq]; omega
            by_cases h1 : e = ep
            · subst h1
              by_cases hst5 : st = 5
              · have ghst5 : (st == (5 : Int)) = true := by simpa using hst5
                have hE : acceptE ⟨call, st, since, cen, e, name, ver, ans⟩ e nm v = 8 := by simp [acceptE, hbe, hbp, hst5]
                have hS : acceptS ⟨call, st, since, cen, e, name, ver, ans⟩ e nm v = ⟨call, st, since, cen, e, name, ver, ans⟩ := by unfold acceptS; rw [hE]; simp [hst5]
                rw [hE, hS]
                clear hE hS
                go_enter Try.func30, Try.ntmps30
                go_wp2_with (go_at_call 24; refine (HT.out _ _ _).mono ?_; rintro e1 w1 ⟨rfl, rfl⟩; first | rw [hbe] | rw [hbt])
                refine bodyPost_ret (v := .tuple #[.agg #[.int .i64 (call), .int .i64 (st), .int .i64 (since), .int .i64 (cen), .int .i64 (e), .string (name), .int .i64 (ver), .slice A ans.length c], .int .i64 8]) (by simp [results, Try.results30, go_sem] <;> omega) rfl ⟨A, c, rfl, H.out.same (((Keep.refl _ w).alloc _).alloc _), ((Keep.refl _ w).alloc _).alloc _⟩
              · have ghst5 : (st == (5 : Int)) = false := by simpa using hst5
                obtain ⟨bn, hbn⟩ : ∃ bb, (name.toList == []) = bb := ⟨_, rfl⟩
                cases bn with
                | false =>
                  obtain ⟨bq, hbq⟩ : ∃ bb, (name.toList == nm.toList) = bb := ⟨_, rfl⟩
                  cases bq with
                  | false =>
                    have hE : acceptE ⟨call, st, since, cen, e, name, ver, ans⟩ e nm v = 10 := by simp [acceptE, hbe, hbp, hst5, hbn, hbq]
                    have hS : acceptS ⟨call, st, since, cen, e, name, ver, ans⟩ e nm v = ⟨call, st, since, cen, e, name, ver, ans⟩ := by unfold acceptS; rw [hE]; simp
                    rw [hE, hS]
                    clear hE hS
                    go_enter Try.func30, Try.ntmps30
                    go_wp2_with (go_at_call 24; refine (HT.out _ _ _).mono ?_; rintro e1 w1 ⟨rfl, rfl⟩; first | rw [hbe] | rw [hbt])
                    refine bodyPost_ret (v := .tuple #[.agg #[.int .i64 (call), .int .i64 (st), .int .i64 (since), .int .i64 (cen), .int .i64 (e), .string (name), .int .i64 (ver), .slice A ans.length c], .int .i64 10]) (by simp [results, Try.results30, go_sem] <;> omega) rfl ⟨A, c, rfl, H.out.same (((Keep.refl _ w).alloc _).alloc _), ((Keep.refl _ w).alloc _).alloc _⟩
                  | true =>
                    by_cases h2 : ver = v
                    · subst h2
                      by_cases hst1 : st = 1
                      · have ghst1 : (st == (1 : Int)) = true := by simpa using hst1
                        have hE : acceptE ⟨call, st, since, cen, e, name, ver, ans⟩ e nm ver = 0 := by simp [acceptE, hbe, hbp, hbn, hbq, hst1]
                        have hS : acceptS ⟨call, st, since, cen, e, name, ver, ans⟩ e nm ver = ⟨call, 2, -1, cen, e, nm, ver, ans⟩ := by unfold acceptS; rw [hE]; simp [hst1]
                        rw [hE, hS]
                        clear hE hS
                        go_enter Try.func30, Try.ntmps30
                        go_wp2_with (go_at_call 24; refine (HT.out _ _ _).mono ?_; rintro e1 w1 ⟨rfl, rfl⟩; first | rw [hbe] | rw [hbt])
                        refine bodyPost_ret (v := .tuple #[.agg #[.int .i64 (call), .int .i64 (2), .int .i64 (-1), .int .i64 (cen), .int .i64 (e), .string (nm), .int .i64 (ver), .slice A ans.length c], .int .i64 0]) (by simp [results, Try.results30, go_sem] <;> omega) rfl ⟨A, c, rfl, H.out.same (((Keep.refl _ w).alloc _).alloc _), ((Keep.refl _ w).alloc _).alloc _⟩
                      · have ghst1 : (st == (1 : Int)) = false := by simpa using hst1
                        have hE : acceptE ⟨call, st, since, cen, e, name, ver, ans⟩ e nm ver = 0 := by simp [acceptE, hbe, hbp, hst5, hbn, hbq]
                        have hS : acceptS ⟨call, st, since, cen, e, name, ver, ans⟩ e nm ver = ⟨call, st, since, cen, e, nm, ver, ans⟩ := by unfold acceptS; rw [hE]; simp [hst1]
                        rw [hE, hS]
                        clear hE hS
                        go_enter Try.func30, Try.ntmps30
                        go_wp2_with (go_at_call 24; refine (HT.out _ _ _).mono ?_; rintro e1 w1 ⟨rfl, rfl⟩; first | rw [hbe] | rw [hbt])
                        refine bodyPost_ret (v := .tuple #[.agg #[.int .i64 (call), .int .i64 (st), .int .i64 (since), .int .i64 (cen), .int .i64 (e), .string (nm), .int .i64 (ver), .slice A ans.length c], .int .i64 0]) (by simp [results, Try.results30, go_sem] <;> omega) rfl ⟨A, c, rfl, H.out.same (((Keep.refl _ w).alloc _).alloc _), ((Keep.refl _ w).alloc _).alloc _⟩
                    · have gh2 : (ver == v) = false := by simpa using h2
                      have hE : acceptE ⟨call, st, since, cen, e, name, ver, ans⟩ e nm v = 10 := by simp [acceptE, hbe, hbp, hst5, hbn, hbq, h2]
                      have hS : acceptS ⟨call, st, since, cen, e, name, ver, ans⟩ e nm v = ⟨call, st, since, cen, e, name, ver, ans⟩ := by unfold acceptS; rw [hE]; simp
                      rw [hE, hS]
                      clear hE hS
                      go_enter Try.func30, Try.ntmps30
                      go_wp2_with (go_at_call 24; refine (HT.out _ _ _).mono ?_; rintro e1 w1 ⟨rfl, rfl⟩; first | rw [hbe] | rw [hbt])
                      refine bodyPost_ret (v := .tuple #[.agg #[.int .i64 (call), .int .i64 (st), .int .i64 (since), .int .i64 (cen), .int .i64 (e), .string (name), .int .i64 (ver), .slice A ans.length c], .int .i64 10]) (by simp [results, Try.results30, go_sem] <;> omega) rfl ⟨A, c, rfl, H.out.same (((Keep.refl _ w).alloc _).alloc _), ((Keep.refl _ w).alloc _).alloc _⟩
                | true =>
                  by_cases hst1 : st = 1
                  · have ghst1 : (st == (1 : Int)) = true := by simpa using hst1
                    have hE : acceptE ⟨call, st, since, cen, e, name, ver, ans⟩ e nm v = 0 := by simp [acceptE, hbe, hbp, hbn, hst1]
                    have hS : acceptS ⟨call, st, since, cen, e, name, ver, ans⟩ e nm v = ⟨call, 2, -1, cen, e, nm, v, ans⟩ := by unfold acceptS; rw [hE]; simp [hst1]
                    rw [hE, hS]
                    clear hE hS
                    go_enter Try.func30, Try.ntmps30
                    go_wp2_with (go_at_call 24; refine (HT.out _ _ _).mono ?_; rintro e1 w1 ⟨rfl, rfl⟩; first | rw [hbe] | rw [hbt])
                    refine bodyPost_ret (v := .tuple #[.agg #[.int .i64 (call), .int .i64 (2), .int .i64 (-1), .int .i64 (cen), .int .i64 (e), .string (nm), .int .i64 (v), .slice A ans.length c], .int .i64 0]) (by simp [results, Try.results30, go_sem] <;> omega) rfl ⟨A, c, rfl, H.out.same (((Keep.refl _ w).alloc _).alloc _), ((Keep.refl _ w).alloc _).alloc _⟩
                  · have ghst1 : (st == (1 : Int)) = false := by simpa using hst1
                    have hE : acceptE ⟨call, st, since, cen, e, name, ver, ans⟩ e nm v = 0 := by simp [acceptE, hbe, hbp, hst5, hbn]
                    have hS : acceptS ⟨call, st, since, cen, e, name, ver, ans⟩ e nm v = ⟨call, st, since, cen, e, nm, v, ans⟩ := by unfold acceptS; rw [hE]; simp [hst1]
                    rw [hE, hS]
                    clear hE hS
                    go_enter Try.func30, Try.ntmps30
                    go_wp2_with (go_at_call 24; refine (HT.out _ _ _).mono ?_; rintro e1 w1 ⟨rfl, rfl⟩; first | rw [hbe] | rw [hbt])
                    refine bodyPost_ret (v := .tuple #[.agg #[.int .i64 (call), .int .i64 (st), .int .i64 (since), .int .i64 (cen), .int .i64 (e), .string (nm), .int .i64 (v), .slice A ans.length c], .int .i64 0]) (by simp [results, Try.results30, go_sem] <;> omega) rfl ⟨A, c, rfl, H.out.same (((Keep.refl _ w).alloc _).alloc _), ((Keep.refl _ w).alloc _).alloc _⟩
            · have gh1 : (e == ep) = false := by simpa using h1
              have hE : acceptE ⟨call, st, since, cen, ep, name, ver, ans⟩ e nm v = 9 := by simp [acceptE, hbe, hbp, h1]
              have hS : acceptS ⟨call, st, since, cen, ep, name, ver, ans⟩ e nm v = ⟨call, st, since, cen, ep, name, ver, ans⟩ := by unfold acceptS; rw [hE]; simp
              rw [hE, hS]
              clear hE hS
              go_enter Try.func30, Try.ntmps30
              go_wp2_with (go_at_call 24; refine (HT.out _ _ _).mono ?_; rintro e1 w1 ⟨rfl, rfl⟩; first | rw [hbe] | rw [hbt])
              refine bodyPost_ret (v := .tuple #[.agg #[.int .i64 (call), .int .i64 (st), .int .i64 (since), .int .i64 (cen), .int .i64 (ep), .string (name), .int .i64 (ver), .slice A ans.length c], .int .i64 9]) (by simp [results, Try.results30, go_sem] <;> omega) rfl ⟨A, c, rfl, H.out.same (((Keep.refl _ w).alloc _).alloc _), ((Keep.refl _ w).alloc _).alloc _⟩

set_option maxHeartbeats 1000000 in
theorem rhang_any (t : Int) : Calls Try.prog 33 #[.agg (s.cells A c).toArray, .int .i64 t] w (RefPost w Av (hangS s t) (hangE s t)) := by
  have HT := hid number_any
  obtain ⟨call, st, since, cen, ep, name, ver, ans⟩ := s
  have H := hid h
  clear h
  simp only [CL.cells]
  obtain ⟨bt, hbt⟩ : ∃ bb, (vN t 0) = bb := ⟨_, rfl⟩
  cases bt with
  | false =>
    have hE : hangE ⟨call, st, since, cen, ep, name, ver, ans⟩ t = 1 := by simp [hangE, hbt]
    have hS : hangS ⟨call, st, since, cen, ep, name, ver, ans⟩ t = ⟨call, st, since, cen, ep, name, ver, ans⟩ := by unfold hangS; rw [hE]; simp
    rw [hE, hS]
    clear hE hS
    go_enter Try.func33, Try.ntmps33
    go_wp2_with (go_at_call 24; refine (HT.out _ _ _).mono ?_; rintro e1 w1 ⟨rfl, rfl⟩; first | rw [hbe] | rw [hbt])
    refine bodyPost_ret (v := .tuple #[.agg #[.int .i64 (call), .int .i64 (st), .int .i64 (since), .int .i64 (cen), .int .i64 (ep), .string (name), .int .i64 (ver), .slice A ans.length c], .int .i64 1]) (by simp [results, Try.results33, go_sem] <;> omega) rfl ⟨A, c, rfl, H.out.same (((Keep.refl _ w).alloc _).alloc _), ((Keep.refl _ w).alloc _).alloc _⟩
  | true =>
    by_cases hst3 : st = 3
    · have ghst3 : (st == (3 : Int)) = true := by simpa using hst3
      have hE : hangE ⟨call, st, since, cen, ep, name, ver, ans⟩ t = 8 := by simp [hangE, hbt, hst3]
      have hS : hangS ⟨call, st, since, cen, ep, name, ver, ans⟩ t = ⟨call, st, since, cen, ep, name, ver, ans⟩ := by unfold hangS; rw [hE]; simp [hst3]
      rw [hE, hS]
      clear hE hS
      go_enter Try.func33, Try.ntmps33
      go_wp2_with (go_at_call 24; refine (HT.out _ _ _).mono ?_; rintro e1 w1 ⟨rfl, rfl⟩; first | rw [hbe] | rw [hbt])
      refine bodyPost_ret (v := .tuple #[.agg #[.int .i64 (call), .int .i64 (st), .int .i64 (since), .int .i64 (cen), .int .i64 (ep), .string (name), .int .i64 (ver), .slice A ans.length c], .int .i64 8]) (by simp [results, Try.results33, go_sem] <;> omega) rfl ⟨A, c, rfl, H.out.same (((Keep.refl _ w).alloc _).alloc _), ((Keep.refl _ w).alloc _).alloc _⟩
    · have ghst3 : (st == (3 : Int)) = false := by simpa using hst3
      by_cases hst5 : st = 5
      · have ghst5 : (st == (5 : Int)) = true := by simpa using hst5
        have hE : hangE ⟨call, st, since, cen, ep, name, ver, ans⟩ t = 8 := by simp [hangE, hbt, hst5]
        have hS : hangS ⟨call, st, since, cen, ep, name, ver, ans⟩ t = ⟨call, st, since, cen, ep, name, ver, ans⟩ := by unfold hangS; rw [hE]; simp [hst5]
        rw [hE, hS]
        clear hE hS
        go_enter Try.func33, Try.ntmps33
        go_wp2_with (go_at_call 24; refine (HT.out _ _ _).mono ?_; rintro e1 w1 ⟨rfl, rfl⟩; first | rw [hbe] | rw [hbt])
        refine bodyPost_ret (v := .tuple #[.agg #[.int .i64 (call), .int .i64 (st), .int .i64 (since), .int .i64 (cen), .int .i64 (ep), .string (name), .int .i64 (ver), .slice A ans.length c], .int .i64 8]) (by simp [results, Try.results33, go_sem] <;> omega) rfl ⟨A, c, rfl, H.out.same (((Keep.refl _ w).alloc _).alloc _), ((Keep.refl _ w).alloc _).alloc _⟩
      · have ghst5 : (st == (5 : Int)) = false := by simpa using hst5
        by_cases hst1 : st = 1
        · have ghst1 : (st == (1 : Int)) = true := by simpa using hst1
          have hE : hangE ⟨call, st, since, cen, ep, name, ver, ans⟩ t = 0 := by simp [hangE, hbt, hst1]
          have hS : hangS ⟨call, st, since, cen, ep, name, ver, ans⟩ t = ⟨call, 3, since, cen, ep, name, ver, ans⟩ := by unfold hangS; rw [hE]; simp [hst1]
          rw [hE, hS]
          clear hE hS
          go_enter Try.func33, Try.ntmps33
          go_wp2_with (go_at_call 24; refine (HT.out _ _ _).mono ?_; rintro e1 w1 ⟨rfl, rfl⟩; first | rw [hbe] | rw [hbt])
          refine bodyPost_ret (v := .tuple #[.agg #[.int .i64 (call), .int .i64 (3), .int .i64 (since), .int .i64 (cen), .int .i64 (ep), .string (name), .int .i64 (ver), .slice A ans.length c], .int .i64 0]) (by simp [results, Try.results33, go_sem] <;> omega) rfl ⟨A, c, rfl, H.out.same (((Keep.refl _ w).alloc _).alloc _), ((Keep.refl _ w).alloc _).alloc _⟩
        · have ghst1 : (st == (1 : Int)) = false := by simpa using hst1
          have hE : hangE ⟨call, st, since, cen, ep, name, ver, ans⟩ t = 0 := by simp [hangE, hbt, hst3, hst5]
          have hS : hangS ⟨call, st, since, cen, ep, name, ver, ans⟩ t = ⟨call, 3, t, cen, ep, name, ver, ans⟩ := by unfold hangS; rw [hE]; simp [hst1]
          rw [hE, hS]
          clear hE hS
          go_enter Try.func33, Try.ntmps33
          go_wp2_with (go_at_call 24; refine (HT.out _ _ _).mono ?_; rintro e1 w1 ⟨rfl, rfl⟩; first | rw [hbe] | rw [hbt])
          refine bodyPost_ret (v := .tuple #[.agg #[.int .i64 (call), .int .i64 (3), .int .i64 (t), .int .i64 (cen), .int .i64 (ep), .string (name), .int .i64 (ver), .slice A ans.length c], .int .i64 0]) (by simp [results, Try.results33, go_sem] <;> omega) rfl ⟨A, c, rfl, H.out.same (((Keep.refl _ w).alloc _).alloc _), ((Keep.refl _ w).alloc _).alloc _⟩

set_option maxHeartbeats 1000000 in
theorem rback_any (e : Int) : Calls Try.prog 34 #[.agg (s.cells A c).toArray, .int .i64 e] w (RefPost w Av (backS s e) (backE s e)) := by
  have HT := hid number_any
  obtain ⟨call, st, since, cen, ep, name, ver, ans⟩ := s
  have H := hid h
  clear h
  simp only [CL.cells]
  obtain ⟨be, hbe⟩ : ∃ bb, (vN e 1) = bb := ⟨_, rfl⟩
  cases be with
  | false =>
    have hE : backE ⟨call, st, since, cen, ep, name, ver, ans⟩ e = 1 := by simp [backE, hbe]
    have hS : backS ⟨call, st, since, cen, ep, name, ver, ans⟩ e = ⟨call, st, since, cen, ep, name, ver, ans⟩ := by unfold backS; rw [hE]; simp
    rw [hE, hS]
    clear hE hS
    go_enter Try.func34, Try.ntmps34
    go_wp2_with (go_at_call 24; refine (HT.out _ _ _).mono ?_; rintro e1 w1 ⟨rfl, rfl⟩; first | rw [hbe] | rw [hbt])
    refine bodyPost_ret (v := .tuple #[.agg #[.int .i64 (call), .int .i64 (st), .int .i64 (since), .int .i64 (cen), .int .i64 (ep), .string (name), .int .i64 (ver), .slice A ans.length c], .int .i64 1]) (by simp [results, Try.results34, go_sem] <;> omega) rfl ⟨A, c, rfl, H.out.same (((Keep.refl _ w).alloc _).alloc _), ((Keep.refl _ w).alloc _).alloc _⟩
  | true =>
    by_cases h1 : e = ep
    · subst h1
      by_cases hst3 : st = 3
      · have ghst3 : (st == (3 : Int)) = true := by simpa using hst3
        have hE : backE ⟨call, st, since, cen, e, name, ver, ans⟩ e = 0 := by simp [backE, hbe, hst3]
        have hS : backS ⟨call, st, since, cen, e, name, ver, ans⟩ e = ⟨call, 4, -1, cen, e, name, ver, ans⟩ := by unfold backS; rw [hE]; simp
        rw [hE, hS]
        clear hE hS
        go_enter Try.func34, Try.ntmps34
        go_wp2_with (go_at_call 24; refine (HT.out _ _ _).mono ?_; rintro e1 w1 ⟨rfl, rfl⟩; first | rw [hbe] | rw [hbt])
        refine bodyPost_ret (v := .tuple #[.agg #[.int .i64 (call), .int .i64 (4), .int .i64 (-1), .int .i64 (cen), .int .i64 (e), .string (name), .int .i64 (ver), .slice A ans.length c], .int .i64 0]) (by simp [results, Try.results34, go_sem] <;> omega) rfl ⟨A, c, rfl, H.out.same (((Keep.refl _ w).alloc _).alloc _), ((Keep.refl _ w).alloc _).alloc _⟩
      · have ghst3 : (st == (3 : Int)) = false := by simpa using hst3
        have hE : backE ⟨call, st, since, cen, e, name, ver, ans⟩ e = 8 := by simp [backE, hbe, hst3]
        have hS : backS ⟨call, st, since, cen, e, name, ver, ans⟩ e = ⟨call, st, since, cen, e, name, ver, ans⟩ := by unfold backS; rw [hE]; simp
        rw [hE, hS]
        clear hE hS
        go_enter Try.func34, Try.ntmps34
        go_wp2_with (go_at_call 24; refine (HT.out _ _ _).mono ?_; rintro e1 w1 ⟨rfl, rfl⟩; first | rw [hbe] | rw [hbt])
        refine bodyPost_ret (v := .tuple #[.agg #[.int .i64 (call), .int .i64 (st), .int .i64 (since), .int .i64 (cen), .int .i64 (e), .string (name), .int .i64 (ver), .slice A ans.length c], .int .i64 8]) (by simp [results, Try.results34, go_sem] <;> omega) rfl ⟨A, c, rfl, H.out.same (((Keep.refl _ w).alloc _).alloc _), ((Keep.refl _ w).alloc _).alloc _⟩
    · have gh1 : (e == ep) = false := by simpa using h1
      have hE : backE ⟨call, st, since, cen, ep, name, ver, ans⟩ e = 9 := by simp [backE, hbe, h1]
      have hS : backS ⟨call, st, since, cen, ep, name, ver, ans⟩ e = ⟨call, st, since, cen, ep, name, ver, ans⟩ := by unfold backS; rw [hE]; simp
      rw [hE, hS]
      clear hE hS
      go_enter Try.func34, Try.ntmps34
      go_wp2_with (go_at_call 24; refine (HT.out _ _ _).mono ?_; rintro e1 w1 ⟨rfl, rfl⟩; first | rw [hbe] | rw [hbt])
      refine bodyPost_ret (v := .tuple #[.agg #[.int .i64 (call), .int .i64 (st), .int .i64 (since), .int .i64 (cen), .int .i64 (ep), .string (name), .int .i64 (ver), .slice A ans.length c], .int .i64 9]) (by simp [results, Try.results34, go_sem] <;> omega) rfl ⟨A, c, rfl, H.out.same (((Keep.refl _ w).alloc _).alloc _), ((Keep.refl _ w).alloc _).alloc _⟩

set_option maxHeartbeats 1000000 in
theorem rclose_any (e : Int) : Calls Try.prog 35 #[.agg (s.cells A c).toArray, .int .i64 e] w (RefPost w Av (closeS s e) (closeE s e)) := by
  have HT := hid number_any
  obtain ⟨call, st, since, cen, ep, name, ver, ans⟩ := s
  have H := hid h
  clear h
  simp only [CL.cells]
  obtain ⟨be, hbe⟩ : ∃ bb, (vN e 1) = bb := ⟨_, rfl⟩
  cases be with
  | false =>
    have hE : closeE ⟨call, st, since, cen, ep, name, ver, ans⟩ e = 1 := by simp [closeE, hbe]
    have hS : closeS ⟨call, st, since, cen, ep, name, ver, ans⟩ e = ⟨call, st, since, cen, ep, name, ver, ans⟩ := by unfold closeS; rw [hE]; simp
    rw [hE, hS]
    clear hE hS
    go_enter Try.func35, Try.ntmps35
    go_wp2_with (go_at_call 24; refine (HT.out _ _ _).mono ?_; rintro e1 w1 ⟨rfl, rfl⟩; first | rw [hbe] | rw [hbt])
    refine bodyPost_ret (v := .tuple #[.agg #[.int .i64 (call), .int .i64 (st), .int .i64 (since), .int .i64 (cen), .int .i64 (ep), .string (name), .int .i64 (ver), .slice A ans.length c], .int .i64 1]) (by simp [results, Try.results35, go_sem] <;> omega) rfl ⟨A, c, rfl, H.out.same (((Keep.refl _ w).alloc _).alloc _), ((Keep.refl _ w).alloc _).alloc _⟩
  | true =>
    by_cases h1 : e = ep
    · subst h1
      by_cases hst5 : st = 5
      · have ghst5 : (st == (5 : Int)) = true := by simpa using hst5
        have hE : closeE ⟨call, st, since, cen, e, name, ver, ans⟩ e = 8 := by simp [closeE, hbe, hst5]
        have hS : closeS ⟨call, st, since, cen, e, name, ver, ans⟩ e = ⟨call, st, since, cen, e, name, ver, ans⟩ := by unfold closeS; rw [hE]; simp [hst5]
        rw [hE, hS]
        clear hE hS
        go_enter Try.func35, Try.ntmps35
        go_wp2_with (go_at_call 24; refine (HT.out _ _ _).mono ?_; rintro e1 w1 ⟨rfl, rfl⟩; first | rw [hbe] | rw [hbt])
        refine bodyPost_ret (v := .tuple #[.agg #[.int .i64 (call), .int .i64 (st), .int .i64 (since), .int .i64 (cen), .int .i64 (e), .string (name), .int .i64 (ver), .slice A ans.length c], .int .i64 8]) (by simp [results, Try.results35, go_sem] <;> omega) rfl ⟨A, c, rfl, H.out.same (((Keep.refl _ w).alloc _).alloc _), ((Keep.refl _ w).alloc _).alloc _⟩
      · have ghst5 : (st == (5 : Int)) = false := by simpa using hst5
        have hE : closeE ⟨call, st, since, cen, e, name, ver, ans⟩ e = 0 := by simp [closeE, hbe, hst5]
        have hS : closeS ⟨call, st, since, cen, e, name, ver, ans⟩ e = ⟨call, 5, -1, cen, e, name, ver, ans⟩ := by unfold closeS; rw [hE]; simp
        rw [hE, hS]
        clear hE hS
        go_enter Try.func35, Try.ntmps35
        go_wp2_with (go_at_call 24; refine (HT.out _ _ _).mono ?_; rintro e1 w1 ⟨rfl, rfl⟩; first | rw [hbe] | rw [hbt])
        refine bodyPost_ret (v := .tuple #[.agg #[.int .i64 (call), .int .i64 (5), .int .i64 (-1), .int .i64 (cen), .int .i64 (e), .string (name), .int .i64 (ver), .slice A ans.length c], .int .i64 0]) (by simp [results, Try.results35, go_sem] <;> omega) rfl ⟨A, c, rfl, H.out.same (((Keep.refl _ w).alloc _).alloc _), ((Keep.refl _ w).alloc _).alloc _⟩
    · have gh1 : (e == ep) = false := by simpa using h1
      have hE : closeE ⟨call, st, since, cen, ep, name, ver, ans⟩ e = 9 := by simp [closeE, hbe, h1]
      have hS : closeS ⟨call, st, since, cen, ep, name, ver, ans⟩ e = ⟨call, st, since, cen, ep, name, ver, ans⟩ := by unfold closeS; rw [hE]; simp
      rw [hE, hS]
      clear hE hS
      go_enter Try.func35, Try.ntmps35
      go_wp2_with (go_at_call 24; refine (HT.out _ _ _).mono ?_; rintro e1 w1 ⟨rfl, rfl⟩; first | rw [hbe] | rw [hbt])
      refine bodyPost_ret (v := .tuple #[.agg #[.int .i64 (call), .int .i64 (st), .int .i64 (since), .int .i64 (cen), .int .i64 (ep), .string (name), .int .i64 (ver), .slice A ans.length c], .int .i64 9]) (by simp [results, Try.results35, go_sem] <;> omega) rfl ⟨A, c, rfl, H.out.same (((Keep.refl _ w).alloc _).alloc _), ((Keep.refl _ w).alloc _).alloc _⟩
end
end Go.Proofs.Ytkkenfgpmoediaa

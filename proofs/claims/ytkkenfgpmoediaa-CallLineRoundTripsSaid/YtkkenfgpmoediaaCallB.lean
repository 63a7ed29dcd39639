import Derived.Test.YtkkenfgpmoediaaCallA
namespace Go.Proofs.Ytkkenfgpmoediaa
open Go.RowKit

/-! ## The operations of a line -/
section
variable (w : World) (lb : Nat) (r : Option Nat) (A : Option Addr) (c : Nat) (s : CL) (h : LineAt w lb r A c s)
include h
set_option maxHeartbeats 4000000 in
theorem assign_any (x e t : Int) : Calls Try.prog 19 #[.pointer (some ⟨lb, 0, none⟩), .int .i64 x, .int .i64 e, .int .i64 t] w (LPost w lb r (assignS s x e t) (.int .i64 (assignE s x e t))) := by
  obtain ⟨c0, c1, c2, c3, c4, c5, c6, c7⟩ := h.cs
  have f0 := h.top.free 0
  have f1 := h.top.free 1
  have f2 := h.top.free 2
  have f3 := h.top.free 3
  have f4 := h.top.free 4
  have f5 := h.top.free 5
  have f6 := h.top.free 6
  have f7 := h.top.free 7
  have hlt := h.top.lt
  have H := hid h
  have HC := hid (validCentre_any w x)
  have HV := hid (validEpoch_any w e)
  have HT := hid (validTick_any w t)
  obtain ⟨call, st, since, cen, ep, name, ver, ans⟩ := s
  simp only at c0 c1 c2 c3 c4 c5 c6 c7
  clear h
  obtain ⟨bx, hbx⟩ : ∃ bb, (vC x) = bb := ⟨_, rfl⟩
  cases bx with
  | false =>
    rw [hbx] at HC
    have hE : assignE ⟨call, st, since, cen, ep, name, ver, ans⟩ x e t = 1 := by simp [assignE, hbx]
    have hS : assignS ⟨call, st, since, cen, ep, name, ver, ans⟩ x e t = ⟨call, st, since, cen, ep, name, ver, ans⟩ := by unfold assignS; rw [hE]; simp
    rw [hE, hS]
    clear hE hS
    go_enter Try.func19, Try.ntmps19
    go_wp2_with (first
      | (go_at_call 23; refine HT.out.mono ?_; rintro e1 w1 ⟨rfl, rfl⟩)
      | (go_at_call 36; refine HV.out.mono ?_; rintro e1 w1 ⟨rfl, rfl⟩)
      | (go_at_call 44; refine HC.out.mono ?_; rintro e1 w1 ⟨rfl, rfl⟩)
      | (go_at_call 37; refine HP.out.mono ?_; rintro e1 w1 ⟨rfl, rfl⟩)
      | (go_at_call 38; refine HO.out.mono ?_; rintro e1 w1 ⟨rfl, rfl⟩))
    go_ret
    exact LPost.self H.out
  | true =>
    rw [hbx] at HC
    obtain ⟨be, hbe⟩ : ∃ bb, (vN e 1) = bb := ⟨_, rfl⟩
    cases be with
    | false =>
      rw [hbe] at HV
      have hE : assignE ⟨call, st, since, cen, ep, name, ver, ans⟩ x e t = 1 := by simp [assignE, hbx, hbe]
      have hS : assignS ⟨call, st, since, cen, ep, name, ver, ans⟩ x e t = ⟨call, st, since, cen, ep, name, ver, ans⟩ := by unfold assignS; rw [hE]; simp
      rw [hE, hS]
      clear hE hS
      go_enter Try.func19, Try.ntmps19
      go_wp2_with (first
        | (go_at_call 23; refine HT.out.mono ?_; rintro e1 w1 ⟨rfl, rfl⟩)
        | (go_at_call 36; refine HV.out.mono ?_; rintro e1 w1 ⟨rfl, rfl⟩)
        | (go_at_call 44; refine HC.out.mono ?_; rintro e1 w1 ⟨rfl, rfl⟩)
        | (go_at_call 37; refine HP.out.mono ?_; rintro e1 w1 ⟨rfl, rfl⟩)
        | (go_at_call 38; refine HO.out.mono ?_; rintro e1 w1 ⟨rfl, rfl⟩))
      go_ret
      exact LPost.self H.out
    | true =>
      rw [hbe] at HV
      obtain ⟨bt, hbt⟩ : ∃ bb, (vN t 0) = bb := ⟨_, rfl⟩
      cases bt with
      | false =>
        rw [hbt] at HT
        have hE : assignE ⟨call, st, since, cen, ep, name, ver, ans⟩ x e t = 1 := by simp [assignE, hbx, hbe, hbt]
        have hS : assignS ⟨call, st, since, cen, ep, name, ver, ans⟩ x e t = ⟨call, st, since, cen, ep, name, ver, ans⟩ := by unfold assignS; rw [hE]; simp
        rw [hE, hS]
        clear hE hS
        go_enter Try.func19, Try.ntmps19
        go_wp2_with (first
          | (go_at_call 23; refine HT.out.mono ?_; rintro e1 w1 ⟨rfl, rfl⟩)
          | (go_at_call 36; refine HV.out.mono ?_; rintro e1 w1 ⟨rfl, rfl⟩)
          | (go_at_call 44; refine HC.out.mono ?_; rintro e1 w1 ⟨rfl, rfl⟩)
          | (go_at_call 37; refine HP.out.mono ?_; rintro e1 w1 ⟨rfl, rfl⟩)
          | (go_at_call 38; refine HO.out.mono ?_; rintro e1 w1 ⟨rfl, rfl⟩))
        go_ret
        exact LPost.self H.out
      | true =>
        rw [hbt] at HT
        by_cases h1 : e ≤ ep
        · have hE : assignE ⟨call, st, since, cen, ep, name, ver, ans⟩ x e t = 9 := by simp [assignE, hbx, hbe, hbt, h1]
          have hS : assignS ⟨call, st, since, cen, ep, name, ver, ans⟩ x e t = ⟨call, st, since, cen, ep, name, ver, ans⟩ := by unfold assignS; rw [hE]; simp
          rw [hE, hS]
          clear hE hS
          go_enter Try.func19, Try.ntmps19
          go_wp2_with (first
            | (go_at_call 23; refine HT.out.mono ?_; rintro e1 w1 ⟨rfl, rfl⟩)
            | (go_at_call 36; refine HV.out.mono ?_; rintro e1 w1 ⟨rfl, rfl⟩)
            | (go_at_call 44; refine HC.out.mono ?_; rintro e1 w1 ⟨rfl, rfl⟩)
            | (go_at_call 37; refine HP.out.mono ?_; rintro e1 w1 ⟨rfl, rfl⟩)
            | (go_at_call 38; refine HO.out.mono ?_; rintro e1 w1 ⟨rfl, rfl⟩))
          go_ret
          exact LPost.self H.out
        · by_cases hst5 : st = 5
          · have ghst5 : (st == (5 : Int)) = true := by simpa using hst5
            have hE : assignE ⟨call, st, since, cen, ep, name, ver, ans⟩ x e t = 8 := by simp [assignE, hbx, hbe, hbt, h1, hst5]
            have hS : assignS ⟨call, st, since, cen, ep, name, ver, ans⟩ x e t = ⟨call, st, since, cen, ep, name, ver, ans⟩ := by unfold assignS; rw [hE]; simp [hst5]
            rw [hE, hS]
            clear hE hS
            go_enter Try.func19, Try.ntmps19
            go_wp2_with (first
              | (go_at_call 23; refine HT.out.mono ?_; rintro e1 w1 ⟨rfl, rfl⟩)
              | (go_at_call 36; refine HV.out.mono ?_; rintro e1 w1 ⟨rfl, rfl⟩)
              | (go_at_call 44; refine HC.out.mono ?_; rintro e1 w1 ⟨rfl, rfl⟩)
              | (go_at_call 37; refine HP.out.mono ?_; rintro e1 w1 ⟨rfl, rfl⟩)
              | (go_at_call 38; refine HO.out.mono ?_; rintro e1 w1 ⟨rfl, rfl⟩))
            go_ret
            exact LPost.self H.out
          · have ghst5 : (st == (5 : Int)) = false := by simpa using hst5
            by_cases hst2 : st = 2
            · have ghst2 : (st == (2 : Int)) = true := by simpa using hst2
              have hE : assignE ⟨call, st, since, cen, ep, name, ver, ans⟩ x e t = 0 := by simp [assignE, hbx, hbe, hbt, h1, hst2]
              have hS : assignS ⟨call, st, since, cen, ep, name, ver, ans⟩ x e t = ⟨call, 1, t, x, e, name, ver, ans⟩ := by unfold assignS; rw [hE]; simp [hst2]
              rw [hE, hS]
              clear hE hS
              go_enter Try.func19, Try.ntmps19
              go_wp2_with (first
                | (go_at_call 23; refine HT.out.mono ?_; rintro e1 w1 ⟨rfl, rfl⟩)
                | (go_at_call 36; refine HV.out.mono ?_; rintro e1 w1 ⟨rfl, rfl⟩)
                | (go_at_call 44; refine HC.out.mono ?_; rintro e1 w1 ⟨rfl, rfl⟩)
                | (go_at_call 37; refine HP.out.mono ?_; rintro e1 w1 ⟨rfl, rfl⟩)
                | (go_at_call 38; refine HO.out.mono ?_; rintro e1 w1 ⟨rfl, rfl⟩))
              go_ret
              exact LPost.put H.out ((((H.out.top.put 1 (.int .i64 1)).put 2 (.int .i64 t)).put 3 (.int .i64 x)).put 4 (.int .i64 e)) (((((Keep.refl _ w).put 1 (.int .i64 1)).put 2 (.int .i64 t)).put 3 (.int .i64 x)).put 4 (.int .i64 e)) rfl
            · have ghst2 : (st == (2 : Int)) = false := by simpa using hst2
              by_cases hst4 : st = 4
              · have ghst4 : (st == (4 : Int)) = true := by simpa using hst4
                have hE : assignE ⟨call, st, since, cen, ep, name, ver, ans⟩ x e t = 0 := by simp [assignE, hbx, hbe, hbt, h1, hst4]
                have hS : assignS ⟨call, st, since, cen, ep, name, ver, ans⟩ x e t = ⟨call, 3, t, x, e, name, ver, ans⟩ := by unfold assignS; rw [hE]; simp [hst4]
                rw [hE, hS]
                clear hE hS
                go_enter Try.func19, Try.ntmps19
                go_wp2_with (first
                  | (go_at_call 23; refine HT.out.mono ?_; rintro e1 w1 ⟨rfl, rfl⟩)
                  | (go_at_call 36; refine HV.out.mono ?_; rintro e1 w1 ⟨rfl, rfl⟩)
                  | (go_at_call 44; refine HC.out.mono ?_; rintro e1 w1 ⟨rfl, rfl⟩)
                  | (go_at_call 37; refine HP.out.mono ?_; rintro e1 w1 ⟨rfl, rfl⟩)
                  | (go_at_call 38; refine HO.out.mono ?_; rintro e1 w1 ⟨rfl, rfl⟩))
                go_ret
                exact LPost.put H.out ((((H.out.top.put 1 (.int .i64 3)).put 2 (.int .i64 t)).put 3 (.int .i64 x)).put 4 (.int .i64 e)) (((((Keep.refl _ w).put 1 (.int .i64 3)).put 2 (.int .i64 t)).put 3 (.int .i64 x)).put 4 (.int .i64 e)) rfl
              · have ghst4 : (st == (4 : Int)) = false := by simpa using hst4
                have hE : assignE ⟨call, st, since, cen, ep, name, ver, ans⟩ x e t = 0 := by simp [assignE, hbx, hbe, hbt, h1, hst5]
                have hS : assignS ⟨call, st, since, cen, ep, name, ver, ans⟩ x e t = ⟨call, st, since, x, e, name, ver, ans⟩ := by unfold assignS; rw [hE]; simp [hst2, hst4]
                rw [hE, hS]
                clear hE hS
                go_enter Try.func19, Try.ntmps19
                go_wp2_with (first
                  | (go_at_call 23; refine HT.out.mono ?_; rintro e1 w1 ⟨rfl, rfl⟩)
                  | (go_at_call 36; refine HV.out.mono ?_; rintro e1 w1 ⟨rfl, rfl⟩)
                  | (go_at_call 44; refine HC.out.mono ?_; rintro e1 w1 ⟨rfl, rfl⟩)
                  | (go_at_call 37; refine HP.out.mono ?_; rintro e1 w1 ⟨rfl, rfl⟩)
                  | (go_at_call 38; refine HO.out.mono ?_; rintro e1 w1 ⟨rfl, rfl⟩))
                go_ret
                exact LPost.put H.out ((H.out.top.put 3 (.int .i64 x)).put 4 (.int .i64 e)) (((Keep.refl _ w).put 3 (.int .i64 x)).put 4 (.int .i64 e)) rfl

set_option maxHeartbeats 4000000 in
theorem accept_any (e : Int) (nm : ByteArray) (v : Int) : Calls Try.prog 15 #[.pointer (some ⟨lb, 0, none⟩), .int .i64 e, .string nm, .int .i64 v] w (LPost w lb r (acceptS s e nm v) (.int .i64 (acceptE s e nm v))) := by
  obtain ⟨c0, c1, c2, c3, c4, c5, c6, c7⟩ := h.cs
  have f0 := h.top.free 0
  have f1 := h.top.free 1
  have f2 := h.top.free 2
  have f3 := h.top.free 3
  have f4 := h.top.free 4
  have f5 := h.top.free 5
  have f6 := h.top.free 6
  have f7 := h.top.free 7
  have hlt := h.top.lt
  have H := hid h
  have HV := hid (validEpoch_any w e)
  have HP := hid (validProtocol_any w nm v)
  obtain ⟨call, st, since, cen, ep, name, ver, ans⟩ := s
  simp only at c0 c1 c2 c3 c4 c5 c6 c7
  clear h
  obtain ⟨be, hbe⟩ : ∃ bb, (vN e 1) = bb := ⟨_, rfl⟩
  cases be with
  | false =>
    rw [hbe] at HV
    have hE : acceptE ⟨call, st, since, cen, ep, name, ver, ans⟩ e nm v = 1 := by simp [acceptE, hbe]
    have hS : acceptS ⟨call, st, since, cen, ep, name, ver, ans⟩ e nm v = ⟨call, st, since, cen, ep, name, ver, ans⟩ := by unfold acceptS; rw [hE]; simp
    rw [hE, hS]
    clear hE hS
    go_enter Try.func15, Try.ntmps15
    go_wp2_with (first
      | (go_at_call 23; refine HT.out.mono ?_; rintro e1 w1 ⟨rfl, rfl⟩)
      | (go_at_call 36; refine HV.out.mono ?_; rintro e1 w1 ⟨rfl, rfl⟩)
      | (go_at_call 44; refine HC.out.mono ?_; rintro e1 w1 ⟨rfl, rfl⟩)
      | (go_at_call 37; refine HP.out.mono ?_; rintro e1 w1 ⟨rfl, rfl⟩)
      | (go_at_call 38; refine HO.out.mono ?_; rintro e1 w1 ⟨rfl, rfl⟩))
    go_ret
    exact LPost.self H.out
  | true =>
    rw [hbe] at HV
    obtain ⟨bp, hbp⟩ : ∃ bb, (vP nm.size v) = bb := ⟨_, rfl⟩
    cases bp with
    | false =>
      rw [hbp] at HP
      have hE : acceptE ⟨call, st, since, cen, ep, name, ver, ans⟩ e nm v = 1 := by simp [acceptE, hbe, hbp]
      have hS : acceptS ⟨call, st, since, cen, ep, name, ver, ans⟩ e nm v = ⟨call, st, since, cen, ep, name, ver, ans⟩ := by unfold acceptS; rw [hE]; simp
      rw [hE, hS]
      clear hE hS
      go_enter Try.func15, Try.ntmps15
      go_wp2_with (first
        | (go_at_call 23; refine HT.out.mono ?_; rintro e1 w1 ⟨rfl, rfl⟩)
        | (go_at_call 36; refine HV.out.mono ?_; rintro e1 w1 ⟨rfl, rfl⟩)
        | (go_at_call 44; refine HC.out.mono ?_; rintro e1 w1 ⟨rfl, rfl⟩)
        | (go_at_call 37; refine HP.out.mono ?_; rintro e1 w1 ⟨rfl, rfl⟩)
        | (go_at_call 38; refine HO.out.mono ?_; rintro e1 w1 ⟨rfl, rfl⟩))
      go_ret
      exact LPost.self H.out
    | true =>
      rw [hbp] at HP
      by_cases h1 : e = ep
      · subst h1
        by_cases hst5 : st = 5
        · have ghst5 : (st == (5 : Int)) = true := by simpa using hst5
          have hE : acceptE ⟨call, st, since, cen, e, name, ver, ans⟩ e nm v = 8 := by simp [acceptE, hbe, hbp, hst5]
          have hS : acceptS ⟨call, st, since, cen, e, name, ver, ans⟩ e nm v = ⟨call, st, since, cen, e, name, ver, ans⟩ := by unfold acceptS; rw [hE]; simp [hst5]
          rw [hE, hS]
          clear hE hS
          go_enter Try.func15, Try.ntmps15
          go_wp2_with (first
            | (go_at_call 23; refine HT.out.mono ?_; rintro e1 w1 ⟨rfl, rfl⟩)
            | (go_at_call 36; refine HV.out.mono ?_; rintro e1 w1 ⟨rfl, rfl⟩)
            | (go_at_call 44; refine HC.out.mono ?_; rintro e1 w1 ⟨rfl, rfl⟩)
            | (go_at_call 37; refine HP.out.mono ?_; rintro e1 w1 ⟨rfl, rfl⟩)
            | (go_at_call 38; refine HO.out.mono ?_; rintro e1 w1 ⟨rfl, rfl⟩))
          go_ret
          exact LPost.self H.out
        · have ghst5 : (st == (5 : Int)) = false := by simpa using hst5
          obtain ⟨bn, hbn⟩ : ∃ bb, (name.toList == []) = bb := ⟨_, rfl⟩
          cases bn with
          | false =>
            obtain ⟨bq, hbq⟩ : ∃ bb, (name.toList == nm.toList) = bb := ⟨_, rfl⟩
            cases bq with
            | false =>
              have hE : acceptE ⟨call, st, since, cen, e, name, ver, ans⟩ e nm v = 10 := by simp [acceptE, hbe, hbp, hst5, hbn, hbq]
              have hS : acceptS ⟨call, st, since, cen, e, name, ver, ans⟩ e nm v = ⟨call, st, since, cen, e, name, ver, ans⟩ := by unfold acceptS; rw [hE]; simp
              rw [hE, hS]
              clear hE hS
              go_enter Try.func15, Try.ntmps15
              go_wp2_with (first
                | (go_at_call 23; refine HT.out.mono ?_; rintro e1 w1 ⟨rfl, rfl⟩)
                | (go_at_call 36; refine HV.out.mono ?_; rintro e1 w1 ⟨rfl, rfl⟩)
                | (go_at_call 44; refine HC.out.mono ?_; rintro e1 w1 ⟨rfl, rfl⟩)
                | (go_at_call 37; refine HP.out.mono ?_; rintro e1 w1 ⟨rfl, rfl⟩)
                | (go_at_call 38; refine HO.out.mono ?_; rintro e1 w1 ⟨rfl, rfl⟩))
              go_ret
              exact LPost.self H.out
            | true =>
              by_cases h2 : ver = v
              · subst h2
                by_cases hst1 : st = 1
                · have ghst1 : (st == (1 : Int)) = true := by simpa using hst1
                  have hE : acceptE ⟨call, st, since, cen, e, name, ver, ans⟩ e nm ver = 0 := by simp [acceptE, hbe, hbp, hbn, hbq, hst1]
                  have hS : acceptS ⟨call, st, since, cen, e, name, ver, ans⟩ e nm ver = ⟨call, 2, -1, cen, e, nm, ver, ans⟩ := by unfold acceptS; rw [hE]; simp [hst1]
                  rw [hE, hS]
                  clear hE hS
                  go_enter Try.func15, Try.ntmps15
                  go_wp2_with (first
                    | (go_at_call 23; refine HT.out.mono ?_; rintro e1 w1 ⟨rfl, rfl⟩)
                    | (go_at_call 36; refine HV.out.mono ?_; rintro e1 w1 ⟨rfl, rfl⟩)
                    | (go_at_call 44; refine HC.out.mono ?_; rintro e1 w1 ⟨rfl, rfl⟩)
                    | (go_at_call 37; refine HP.out.mono ?_; rintro e1 w1 ⟨rfl, rfl⟩)
                    | (go_at_call 38; refine HO.out.mono ?_; rintro e1 w1 ⟨rfl, rfl⟩))
                  go_ret
                  exact LPost.put H.out ((((H.out.top.put 5 (.string nm)).put 6 (.int .i64 ver)).put 1 (.int .i64 2)).put 2 (.int .i64 (-1))) (((((Keep.refl _ w).put 5 (.string nm)).put 6 (.int .i64 ver)).put 1 (.int .i64 2)).put 2 (.int .i64 (-1))) rfl
                · have ghst1 : (st == (1 : Int)) = false := by simpa using hst1
                  have hE : acceptE ⟨call, st, since, cen, e, name, ver, ans⟩ e nm ver = 0 := by simp [acceptE, hbe, hbp, hst5, hbn, hbq]
                  have hS : acceptS ⟨call, st, since, cen, e, name, ver, ans⟩ e nm ver = ⟨call, st, since, cen, e, nm, ver, ans⟩ := by unfold acceptS; rw [hE]; simp [hst1]
                  rw [hE, hS]
                  clear hE hS
                  go_enter Try.func15, Try.ntmps15
                  go_wp2_with (first
                    | (go_at_call 23; refine HT.out.mono ?_; rintro e1 w1 ⟨rfl, rfl⟩)
                    | (go_at_call 36; refine HV.out.mono ?_; rintro e1 w1 ⟨rfl, rfl⟩)
                    | (go_at_call 44; refine HC.out.mono ?_; rintro e1 w1 ⟨rfl, rfl⟩)
                    | (go_at_call 37; refine HP.out.mono ?_; rintro e1 w1 ⟨rfl, rfl⟩)
                    | (go_at_call 38; refine HO.out.mono ?_; rintro e1 w1 ⟨rfl, rfl⟩))
                  go_ret
                  exact LPost.put H.out ((H.out.top.put 5 (.string nm)).put 6 (.int .i64 ver)) (((Keep.refl _ w).put 5 (.string nm)).put 6 (.int .i64 ver)) rfl
              · have gh2 : (ver == v) = false := by simpa using h2
                have hE : acceptE ⟨call, st, since, cen, e, name, ver, ans⟩ e nm v = 10 := by simp [acceptE, hbe, hbp, hst5, hbn, hbq, h2]
                have hS : acceptS ⟨call, st, since, cen, e, name, ver, ans⟩ e nm v = ⟨call, st, since, cen, e, name, ver, ans⟩ := by unfold acceptS; rw [hE]; simp
                rw [hE, hS]
                clear hE hS
                go_enter Try.func15, Try.ntmps15
                go_wp2_with (first
                  | (go_at_call 23; refine HT.out.mono ?_; rintro e1 w1 ⟨rfl, rfl⟩)
                  | (go_at_call 36; refine HV.out.mono ?_; rintro e1 w1 ⟨rfl, rfl⟩)
                  | (go_at_call 44; refine HC.out.mono ?_; rintro e1 w1 ⟨rfl, rfl⟩)
                  | (go_at_call 37; refine HP.out.mono ?_; rintro e1 w1 ⟨rfl, rfl⟩)
                  | (go_at_call 38; refine HO.out.mono ?_; rintro e1 w1 ⟨rfl, rfl⟩))
                go_ret
                exact LPost.self H.out
          | true =>
            by_cases hst1 : st = 1
            · have ghst1 : (st == (1 : Int)) = true := by simpa using hst1
              have hE : acceptE ⟨call, st, since, cen, e, name, ver, ans⟩ e nm v = 0 := by simp [acceptE, hbe, hbp, hbn, hst1]
              have hS : acceptS ⟨call, st, since, cen, e, name, ver, ans⟩ e nm v = ⟨call, 2, -1, cen, e, nm, v, ans⟩ := by unfold acceptS; rw [hE]; simp [hst1]
              rw [hE, hS]
              clear hE hS
              go_enter Try.func15, Try.ntmps15
              go_wp2_with (first
                | (go_at_call 23; refine HT.out.mono ?_; rintro e1 w1 ⟨rfl, rfl⟩)
                | (go_at_call 36; refine HV.out.mono ?_; rintro e1 w1 ⟨rfl, rfl⟩)
                | (go_at_call 44; refine HC.out.mono ?_; rintro e1 w1 ⟨rfl, rfl⟩)
                | (go_at_call 37; refine HP.out.mono ?_; rintro e1 w1 ⟨rfl, rfl⟩)
                | (go_at_call 38; refine HO.out.mono ?_; rintro e1 w1 ⟨rfl, rfl⟩))
              go_ret
              exact LPost.put H.out ((((H.out.top.put 5 (.string nm)).put 6 (.int .i64 v)).put 1 (.int .i64 2)).put 2 (.int .i64 (-1))) (((((Keep.refl _ w).put 5 (.string nm)).put 6 (.int .i64 v)).put 1 (.int .i64 2)).put 2 (.int .i64 (-1))) rfl
            · have ghst1 : (st == (1 : Int)) = false := by simpa using hst1
              have hE : acceptE ⟨call, st, since, cen, e, name, ver, ans⟩ e nm v = 0 := by simp [acceptE, hbe, hbp, hst5, hbn]
              have hS : acceptS ⟨call, st, since, cen, e, name, ver, ans⟩ e nm v = ⟨call, st, since, cen, e, nm, v, ans⟩ := by unfold acceptS; rw [hE]; simp [hst1]
              rw [hE, hS]
              clear hE hS
              go_enter Try.func15, Try.ntmps15
              go_wp2_with (first
                | (go_at_call 23; refine HT.out.mono ?_; rintro e1 w1 ⟨rfl, rfl⟩)
                | (go_at_call 36; refine HV.out.mono ?_; rintro e1 w1 ⟨rfl, rfl⟩)
                | (go_at_call 44; refine HC.out.mono ?_; rintro e1 w1 ⟨rfl, rfl⟩)
                | (go_at_call 37; refine HP.out.mono ?_; rintro e1 w1 ⟨rfl, rfl⟩)
                | (go_at_call 38; refine HO.out.mono ?_; rintro e1 w1 ⟨rfl, rfl⟩))
              go_ret
              exact LPost.put H.out ((H.out.top.put 5 (.string nm)).put 6 (.int .i64 v)) (((Keep.refl _ w).put 5 (.string nm)).put 6 (.int .i64 v)) rfl
      · have gh1 : (e == ep) = false := by simpa using h1
        have hE : acceptE ⟨call, st, since, cen, ep, name, ver, ans⟩ e nm v = 9 := by simp [acceptE, hbe, hbp, h1]
        have hS : acceptS ⟨call, st, since, cen, ep, name, ver, ans⟩ e nm v = ⟨call, st, since, cen, ep, name, ver, ans⟩ := by unfold acceptS; rw [hE]; simp
        rw [hE, hS]
        clear hE hS
        go_enter Try.func15, Try.ntmps15
        go_wp2_with (first
          | (go_at_call 23; refine HT.out.mono ?_; rintro e1 w1 ⟨rfl, rfl⟩)
          | (go_at_call 36; refine HV.out.mono ?_; rintro e1 w1 ⟨rfl, rfl⟩)
          | (go_at_call 44; refine HC.out.mono ?_; rintro e1 w1 ⟨rfl, rfl⟩)
          | (go_at_call 37; refine HP.out.mono ?_; rintro e1 w1 ⟨rfl, rfl⟩)
          | (go_at_call 38; refine HO.out.mono ?_; rintro e1 w1 ⟨rfl, rfl⟩))
        go_ret
        exact LPost.self H.out

set_option maxHeartbeats 4000000 in
theorem hang_any (t : Int) : Calls Try.prog 32 #[.pointer (some ⟨lb, 0, none⟩), .int .i64 t] w (LPost w lb r (hangS s t) (.int .i64 (hangE s t))) := by
  obtain ⟨c0, c1, c2, c3, c4, c5, c6, c7⟩ := h.cs
  have f0 := h.top.free 0
  have f1 := h.top.free 1
  have f2 := h.top.free 2
  have f3 := h.top.free 3
  have f4 := h.top.free 4
  have f5 := h.top.free 5
  have f6 := h.top.free 6
  have f7 := h.top.free 7
  have hlt := h.top.lt
  have H := hid h
  have HT := hid (validTick_any w t)
  obtain ⟨call, st, since, cen, ep, name, ver, ans⟩ := s
  simp only at c0 c1 c2 c3 c4 c5 c6 c7
  clear h
  obtain ⟨bt, hbt⟩ : ∃ bb, (vN t 0) = bb := ⟨_, rfl⟩
  cases bt with
  | false =>
    rw [hbt] at HT
    have hE : hangE ⟨call, st, since, cen, ep, name, ver, ans⟩ t = 1 := by simp [hangE, hbt]
    have hS : hangS ⟨call, st, since, cen, ep, name, ver, ans⟩ t = ⟨call, st, since, cen, ep, name, ver, ans⟩ := by unfold hangS; rw [hE]; simp
    rw [hE, hS]
    clear hE hS
    go_enter Try.func32, Try.ntmps32
    go_wp2_with (first
      | (go_at_call 23; refine HT.out.mono ?_; rintro e1 w1 ⟨rfl, rfl⟩)
      | (go_at_call 36; refine HV.out.mono ?_; rintro e1 w1 ⟨rfl, rfl⟩)
      | (go_at_call 44; refine HC.out.mono ?_; rintro e1 w1 ⟨rfl, rfl⟩)
      | (go_at_call 37; refine HP.out.mono ?_; rintro e1 w1 ⟨rfl, rfl⟩)
      | (go_at_call 38; refine HO.out.mono ?_; rintro e1 w1 ⟨rfl, rfl⟩))
    go_ret
    exact LPost.self H.out
  | true =>
    rw [hbt] at HT
    by_cases hst3 : st = 3
    · have ghst3 : (st == (3 : Int)) = true := by simpa using hst3
      have hE : hangE ⟨call, st, since, cen, ep, name, ver, ans⟩ t = 8 := by simp [hangE, hbt, hst3]
      have hS : hangS ⟨call, st, since, cen, ep, name, ver, ans⟩ t = ⟨call, st, since, cen, ep, name, ver, ans⟩ := by unfold hangS; rw [hE]; simp [hst3]
      rw [hE, hS]
      clear hE hS
      go_enter Try.func32, Try.ntmps32
      go_wp2_with (first
        | (go_at_call 23; refine HT.out.mono ?_; rintro e1 w1 ⟨rfl, rfl⟩)
        | (go_at_call 36; refine HV.out.mono ?_; rintro e1 w1 ⟨rfl, rfl⟩)
        | (go_at_call 44; refine HC.out.mono ?_; rintro e1 w1 ⟨rfl, rfl⟩)
        | (go_at_call 37; refine HP.out.mono ?_; rintro e1 w1 ⟨rfl, rfl⟩)
        | (go_at_call 38; refine HO.out.mono ?_; rintro e1 w1 ⟨rfl, rfl⟩))
      go_ret
      exact LPost.self H.out
    · have ghst3 : (st == (3 : Int)) = false := by simpa using hst3
      by_cases hst5 : st = 5
      · have ghst5 : (st == (5 : Int)) = true := by simpa using hst5
        have hE : hangE ⟨call, st, since, cen, ep, name, ver, ans⟩ t = 8 := by simp [hangE, hbt, hst5]
        have hS : hangS ⟨call, st, since, cen, ep, name, ver, ans⟩ t = ⟨call, st, since, cen, ep, name, ver, ans⟩ := by unfold hangS; rw [hE]; simp [hst5]
        rw [hE, hS]
        clear hE hS
        go_enter Try.func32, Try.ntmps32
        go_wp2_with (first
          | (go_at_call 23; refine HT.out.mono ?_; rintro e1 w1 ⟨rfl, rfl⟩)
          | (go_at_call 36; refine HV.out.mono ?_; rintro e1 w1 ⟨rfl, rfl⟩)
          | (go_at_call 44; refine HC.out.mono ?_; rintro e1 w1 ⟨rfl, rfl⟩)
          | (go_at_call 37; refine HP.out.mono ?_; rintro e1 w1 ⟨rfl, rfl⟩)
          | (go_at_call 38; refine HO.out.mono ?_; rintro e1 w1 ⟨rfl, rfl⟩))
        go_ret
        exact LPost.self H.out
      · have ghst5 : (st == (5 : Int)) = false := by simpa using hst5
        by_cases hst1 : st = 1
        · have ghst1 : (st == (1 : Int)) = true := by simpa using hst1
          have hE : hangE ⟨call, st, since, cen, ep, name, ver, ans⟩ t = 0 := by simp [hangE, hbt, hst1]
          have hS : hangS ⟨call, st, since, cen, ep, name, ver, ans⟩ t = ⟨call, 3, since, cen, ep, name, ver, ans⟩ := by unfold hangS; rw [hE]; simp [hst1]
          rw [hE, hS]
          clear hE hS
          go_enter Try.func32, Try.ntmps32
          go_wp2_with (first
            | (go_at_call 23; refine HT.out.mono ?_; rintro e1 w1 ⟨rfl, rfl⟩)
            | (go_at_call 36; refine HV.out.mono ?_; rintro e1 w1 ⟨rfl, rfl⟩)
            | (go_at_call 44; refine HC.out.mono ?_; rintro e1 w1 ⟨rfl, rfl⟩)
            | (go_at_call 37; refine HP.out.mono ?_; rintro e1 w1 ⟨rfl, rfl⟩)
            | (go_at_call 38; refine HO.out.mono ?_; rintro e1 w1 ⟨rfl, rfl⟩))
          go_ret
          exact LPost.put H.out (H.out.top.put 1 (.int .i64 3)) ((Keep.refl _ w).put 1 (.int .i64 3)) rfl
        · have ghst1 : (st == (1 : Int)) = false := by simpa using hst1
          have hE : hangE ⟨call, st, since, cen, ep, name, ver, ans⟩ t = 0 := by simp [hangE, hbt, hst3, hst5]
          have hS : hangS ⟨call, st, since, cen, ep, name, ver, ans⟩ t = ⟨call, 3, t, cen, ep, name, ver, ans⟩ := by unfold hangS; rw [hE]; simp [hst1]
          rw [hE, hS]
          clear hE hS
          go_enter Try.func32, Try.ntmps32
          go_wp2_with (first
            | (go_at_call 23; refine HT.out.mono ?_; rintro e1 w1 ⟨rfl, rfl⟩)
            | (go_at_call 36; refine HV.out.mono ?_; rintro e1 w1 ⟨rfl, rfl⟩)
            | (go_at_call 44; refine HC.out.mono ?_; rintro e1 w1 ⟨rfl, rfl⟩)
            | (go_at_call 37; refine HP.out.mono ?_; rintro e1 w1 ⟨rfl, rfl⟩)
            | (go_at_call 38; refine HO.out.mono ?_; rintro e1 w1 ⟨rfl, rfl⟩))
          go_ret
          exact LPost.put H.out ((H.out.top.put 2 (.int .i64 t)).put 1 (.int .i64 3)) (((Keep.refl _ w).put 2 (.int .i64 t)).put 1 (.int .i64 3)) rfl

set_option maxHeartbeats 4000000 in
theorem back_any (e : Int) : Calls Try.prog 16 #[.pointer (some ⟨lb, 0, none⟩), .int .i64 e] w (LPost w lb r (backS s e) (.int .i64 (backE s e))) := by
  obtain ⟨c0, c1, c2, c3, c4, c5, c6, c7⟩ := h.cs
  have f0 := h.top.free 0
  have f1 := h.top.free 1
  have f2 := h.top.free 2
  have f3 := h.top.free 3
  have f4 := h.top.free 4
  have f5 := h.top.free 5
  have f6 := h.top.free 6
  have f7 := h.top.free 7
  have hlt := h.top.lt
  have H := hid h
  have HO := hid (checkOwner_any w lb r A c s h e)
  obtain ⟨call, st, since, cen, ep, name, ver, ans⟩ := s
  simp only at c0 c1 c2 c3 c4 c5 c6 c7
  clear h
  simp only at HO
  obtain ⟨be, hbe⟩ : ∃ bb, (vN e 1) = bb := ⟨_, rfl⟩
  cases be with
  | false =>
    rw [hbe] at HO
    rw [if_neg (by decide)] at HO
    have hE : backE ⟨call, st, since, cen, ep, name, ver, ans⟩ e = 1 := by simp [backE, hbe]
    have hS : backS ⟨call, st, since, cen, ep, name, ver, ans⟩ e = ⟨call, st, since, cen, ep, name, ver, ans⟩ := by unfold backS; rw [hE]; simp
    rw [hE, hS]
    clear hE hS
    go_enter Try.func16, Try.ntmps16
    go_wp2_with (first
      | (go_at_call 23; refine HT.out.mono ?_; rintro e1 w1 ⟨rfl, rfl⟩)
      | (go_at_call 36; refine HV.out.mono ?_; rintro e1 w1 ⟨rfl, rfl⟩)
      | (go_at_call 44; refine HC.out.mono ?_; rintro e1 w1 ⟨rfl, rfl⟩)
      | (go_at_call 37; refine HP.out.mono ?_; rintro e1 w1 ⟨rfl, rfl⟩)
      | (go_at_call 38; refine HO.out.mono ?_; rintro e1 w1 ⟨rfl, rfl⟩))
    go_ret
    exact LPost.self H.out
  | true =>
    rw [hbe] at HO
    rw [if_pos rfl] at HO
    by_cases h1 : e = ep
    · subst h1
      rw [if_pos rfl] at HO
      by_cases hst3 : st = 3
      · have ghst3 : (st == (3 : Int)) = true := by simpa using hst3
        have hE : backE ⟨call, st, since, cen, e, name, ver, ans⟩ e = 0 := by simp [backE, hbe, hst3]
        have hS : backS ⟨call, st, since, cen, e, name, ver, ans⟩ e = ⟨call, 4, -1, cen, e, name, ver, ans⟩ := by unfold backS; rw [hE]; simp
        rw [hE, hS]
        clear hE hS
        go_enter Try.func16, Try.ntmps16
        go_wp2_with (first
          | (go_at_call 23; refine HT.out.mono ?_; rintro e1 w1 ⟨rfl, rfl⟩)
          | (go_at_call 36; refine HV.out.mono ?_; rintro e1 w1 ⟨rfl, rfl⟩)
          | (go_at_call 44; refine HC.out.mono ?_; rintro e1 w1 ⟨rfl, rfl⟩)
          | (go_at_call 37; refine HP.out.mono ?_; rintro e1 w1 ⟨rfl, rfl⟩)
          | (go_at_call 38; refine HO.out.mono ?_; rintro e1 w1 ⟨rfl, rfl⟩))
        go_ret
        exact LPost.put H.out ((H.out.top.put 1 (.int .i64 4)).put 2 (.int .i64 (-1))) (((Keep.refl _ w).put 1 (.int .i64 4)).put 2 (.int .i64 (-1))) rfl
      · have ghst3 : (st == (3 : Int)) = false := by simpa using hst3
        have hE : backE ⟨call, st, since, cen, e, name, ver, ans⟩ e = 8 := by simp [backE, hbe, hst3]
        have hS : backS ⟨call, st, since, cen, e, name, ver, ans⟩ e = ⟨call, st, since, cen, e, name, ver, ans⟩ := by unfold backS; rw [hE]; simp
        rw [hE, hS]
        clear hE hS
        go_enter Try.func16, Try.ntmps16
        go_wp2_with (first
          | (go_at_call 23; refine HT.out.mono ?_; rintro e1 w1 ⟨rfl, rfl⟩)
          | (go_at_call 36; refine HV.out.mono ?_; rintro e1 w1 ⟨rfl, rfl⟩)
          | (go_at_call 44; refine HC.out.mono ?_; rintro e1 w1 ⟨rfl, rfl⟩)
          | (go_at_call 37; refine HP.out.mono ?_; rintro e1 w1 ⟨rfl, rfl⟩)
          | (go_at_call 38; refine HO.out.mono ?_; rintro e1 w1 ⟨rfl, rfl⟩))
        go_ret
        exact LPost.self H.out
    · have gh1 : (e == ep) = false := by simpa using h1
      rw [if_neg h1] at HO
      have hE : backE ⟨call, st, since, cen, ep, name, ver, ans⟩ e = 9 := by simp [backE, hbe, h1]
      have hS : backS ⟨call, st, since, cen, ep, name, ver, ans⟩ e = ⟨call, st, since, cen, ep, name, ver, ans⟩ := by unfold backS; rw [hE]; simp
      rw [hE, hS]
      clear hE hS
      go_enter Try.func16, Try.ntmps16
      go_wp2_with (first
        | (go_at_call 23; refine HT.out.mono ?_; rintro e1 w1 ⟨rfl, rfl⟩)
        | (go_at_call 36; refine HV.out.mono ?_; rintro e1 w1 ⟨rfl, rfl⟩)
        | (go_at_call 44; refine HC.out.mono ?_; rintro e1 w1 ⟨rfl, rfl⟩)
        | (go_at_call 37; refine HP.out.mono ?_; rintro e1 w1 ⟨rfl, rfl⟩)
        | (go_at_call 38; refine HO.out.mono ?_; rintro e1 w1 ⟨rfl, rfl⟩))
      go_ret
      exact LPost.self H.out

set_option maxHeartbeats 4000000 in
theorem close_any (e : Int) : Calls Try.prog 17 #[.pointer (some ⟨lb, 0, none⟩), .int .i64 e] w (LPost w lb r (closeS s e) (.int .i64 (closeE s e))) := by
  obtain ⟨c0, c1, c2, c3, c4, c5, c6, c7⟩ := h.cs
  have f0 := h.top.free 0
  have f1 := h.top.free 1
  have f2 := h.top.free 2
  have f3 := h.top.free 3
  have f4 := h.top.free 4
  have f5 := h.top.free 5
  have f6 := h.top.free 6
  have f7 := h.top.free 7
  have hlt := h.top.lt
  have H := hid h
  have HO := hid (checkOwner_any w lb r A c s h e)
  obtain ⟨call, st, since, cen, ep, name, ver, ans⟩ := s
  simp only at c0 c1 c2 c3 c4 c5 c6 c7
  clear h
  simp only at HO
  obtain ⟨be, hbe⟩ : ∃ bb, (vN e 1) = bb := ⟨_, rfl⟩
  cases be with
  | false =>
    rw [hbe] at HO
    rw [if_neg (by decide)] at HO
    have hE : closeE ⟨call, st, since, cen, ep, name, ver, ans⟩ e = 1 := by simp [closeE, hbe]
    have hS : closeS ⟨call, st, since, cen, ep, name, ver, ans⟩ e = ⟨call, st, since, cen, ep, name, ver, ans⟩ := by unfold closeS; rw [hE]; simp
    rw [hE, hS]
    clear hE hS
    go_enter Try.func17, Try.ntmps17
    go_wp2_with (first
      | (go_at_call 23; refine HT.out.mono ?_; rintro e1 w1 ⟨rfl, rfl⟩)
      | (go_at_call 36; refine HV.out.mono ?_; rintro e1 w1 ⟨rfl, rfl⟩)
      | (go_at_call 44; refine HC.out.mono ?_; rintro e1 w1 ⟨rfl, rfl⟩)
      | (go_at_call 37; refine HP.out.mono ?_; rintro e1 w1 ⟨rfl, rfl⟩)
      | (go_at_call 38; refine HO.out.mono ?_; rintro e1 w1 ⟨rfl, rfl⟩))
    go_ret
    exact LPost.self H.out
  | true =>
    rw [hbe] at HO
    rw [if_pos rfl] at HO
    by_cases h1 : e = ep
    · subst h1
      rw [if_pos rfl] at HO
      by_cases hst5 : st = 5
      · have ghst5 : (st == (5 : Int)) = true := by simpa using hst5
        have hE : closeE ⟨call, st, since, cen, e, name, ver, ans⟩ e = 8 := by simp [closeE, hbe, hst5]
        have hS : closeS ⟨call, st, since, cen, e, name, ver, ans⟩ e = ⟨call, st, since, cen, e, name, ver, ans⟩ := by unfold closeS; rw [hE]; simp [hst5]
        rw [hE, hS]
        clear hE hS
        go_enter Try.func17, Try.ntmps17
        go_wp2_with (first
          | (go_at_call 23; refine HT.out.mono ?_; rintro e1 w1 ⟨rfl, rfl⟩)
          | (go_at_call 36; refine HV.out.mono ?_; rintro e1 w1 ⟨rfl, rfl⟩)
          | (go_at_call 44; refine HC.out.mono ?_; rintro e1 w1 ⟨rfl, rfl⟩)
          | (go_at_call 37; refine HP.out.mono ?_; rintro e1 w1 ⟨rfl, rfl⟩)
          | (go_at_call 38; refine HO.out.mono ?_; rintro e1 w1 ⟨rfl, rfl⟩))
        go_ret
        exact LPost.self H.out
      · have ghst5 : (st == (5 : Int)) = false := by simpa using hst5
        have hE : closeE ⟨call, st, since, cen, e, name, ver, ans⟩ e = 0 := by simp [closeE, hbe, hst5]
        have hS : closeS ⟨call, st, since, cen, e, name, ver, ans⟩ e = ⟨call, 5, -1, cen, e, name, ver, ans⟩ := by unfold closeS; rw [hE]; simp
        rw [hE, hS]
        clear hE hS
        go_enter Try.func17, Try.ntmps17
        go_wp2_with (first
          | (go_at_call 23; refine HT.out.mono ?_; rintro e1 w1 ⟨rfl, rfl⟩)
          | (go_at_call 36; refine HV.out.mono ?_; rintro e1 w1 ⟨rfl, rfl⟩)
          | (go_at_call 44; refine HC.out.mono ?_; rintro e1 w1 ⟨rfl, rfl⟩)
          | (go_at_call 37; refine HP.out.mono ?_; rintro e1 w1 ⟨rfl, rfl⟩)
          | (go_at_call 38; refine HO.out.mono ?_; rintro e1 w1 ⟨rfl, rfl⟩))
        go_ret
        exact LPost.put H.out ((H.out.top.put 1 (.int .i64 5)).put 2 (.int .i64 (-1))) (((Keep.refl _ w).put 1 (.int .i64 5)).put 2 (.int .i64 (-1))) rfl
    · have gh1 : (e == ep) = false := by simpa using h1
      rw [if_neg h1] at HO
      have hE : closeE ⟨call, st, since, cen, ep, name, ver, ans⟩ e = 9 := by simp [closeE, hbe, h1]
      have hS : closeS ⟨call, st, since, cen, ep, name, ver, ans⟩ e = ⟨call, st, since, cen, ep, name, ver, ans⟩ := by unfold closeS; rw [hE]; simp
      rw [hE, hS]
      clear hE hS
      go_enter Try.func17, Try.ntmps17
      go_wp2_with (first
        | (go_at_call 23; refine HT.out.mono ?_; rintro e1 w1 ⟨rfl, rfl⟩)
        | (go_at_call 36; refine HV.out.mono ?_; rintro e1 w1 ⟨rfl, rfl⟩)
        | (go_at_call 44; refine HC.out.mono ?_; rintro e1 w1 ⟨rfl, rfl⟩)
        | (go_at_call 37; refine HP.out.mono ?_; rintro e1 w1 ⟨rfl, rfl⟩)
        | (go_at_call 38; refine HO.out.mono ?_; rintro e1 w1 ⟨rfl, rfl⟩))
      go_ret
      exact LPost.self H.out
end
end Go.Proofs.Ytkkenfgpmoediaa

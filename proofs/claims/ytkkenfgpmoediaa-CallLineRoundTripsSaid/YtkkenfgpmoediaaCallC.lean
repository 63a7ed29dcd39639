import Derived.Test.YtkkenfgpmoediaaCallA
namespace Go.Proofs.Ytkkenfgpmoediaa
open Go.RowKit

/-! ## New, WaitingSince, Answers, AddAnswer -/
section
variable {w w' : World} {S : Nat → Prop} {lb : Nat} {r : Option Nat} {A : Option Addr} {c : Nat} {s s' : CL}
/-- An answer is added at the end. -/
theorem LineAt.push {w1 w2 : World} (h : LineAt w lb r A c s) (hk : Same w w1) {A' : Option Addr} {c' k : Nat} {ys : List Value} {an : List Int} (hys : ys = icells an) (hkn : k = an.length)
    (ho : Own w2 0 3 1 (.slice A' k c') k ys) (hg : w1.grownBy w2 (Value.slice A s.ans.length c).ownBlock) (hwh : A'.map (·.block) = (Value.slice A s.ans.length c).ownBlock ∨ A'.map (·.block) = some w1.heap.size) :
    Blk w2 lb 54 (s.cells A c).toArray ∧ Keep (fun i => some i = r) w w2 ∧ (∀ g, A'.map (·.block) = some g → g ≠ lb ∧ (r = some g ∨ w.heap.size ≤ g)) := by
  subst hys hkn
  have hob := h.ownBlock
  rw [hob] at hg hwh
  have hwb := h.top.lt
  have h5 := hk.size
  have hk7 : Keep (fun i => some i = r) w w2 := (hk.wide (fun _ _ f => f.elim)).grown hg (fun g e _ => e.symm)
  refine ⟨h.top.keep hk7 (fun e => h.ne lb e.symm rfl), hk7, fun g e => ?_⟩
  rcases hwh with h1 | h1
  · rw [e] at h1
    exact ⟨h.ne g h1.symm, .inl h1.symm⟩
  · rw [e] at h1
    injection h1 with h1
    exact ⟨by omega, .inr (by omega)⟩
end
/-- a copy of the answers -/
def CopyPost (w : World) (l : List Int) (e : Ending) (w' : World) : Prop :=
  ∃ B d, e = .returned (.slice B l.length d) ∧ Sl w' (· < w.heap.size) 1 B l.length (icells l) ∧ Same w w'
theorem icells_len (l : List Int) : (icells l).length = l.length := by simp [icells]
theorem icells_one (l : List Int) : ∀ u ∈ icells l, u.oneCell' = true := by
  intro u hu
  simp only [icells, List.mem_map] at hu
  obtain ⟨_, _, rfl⟩ := hu
  rfl
theorem newRef_any (w : World) (n t : Int) (hn : vN n 1 = true) (ht : vN t 0 = true) : Calls Try.prog 9 #[.int .i64 n, .int .i64 t] w (fun e w' => e = .returned (.tuple #[.agg ((CL.mk n 1 t (-1) 0 ⟨#[]⟩ 0 []).cells none 0).toArray, .int .i64 0]) ∧ Same w w') := by
  have HT := hid number_any
  go_enter Try.func9, Try.ntmps9
  go_wp2_with (go_at_call 24; refine (HT.out _ _ _).mono ?_; rintro e1 w1 ⟨rfl, rfl⟩; first | rw [hn] | rw [ht])
  refine bodyPost_ret (v := .tuple #[.agg ((CL.mk n 1 t (-1) 0 ⟨#[]⟩ 0 []).cells none 0).toArray, .int .i64 0]) (by simp [results, Try.results9, go_sem, CL.cells]) rfl ⟨rfl, (Keep.refl _ w).alloc _⟩
theorem new_any (w : World) (n t : Int) (hn : vN n 1 = true) (ht : vN t 0 = true) : Calls Try.prog 8 #[.int .i64 n, .int .i64 t] w (fun e w' => e = .returned (.tuple #[.pointer (some ⟨w.heap.size, 0, none⟩), .int .i64 0]) ∧ LineAt w' w.heap.size none none 0 ⟨n, 1, t, -1, 0, ⟨#[]⟩, 0, []⟩ ∧ Same w w') := by
  have HT := hid validTick_any
  have HC := hid validCall_any
  go_enter Try.func8, Try.ntmps8
  go_wp2_with (first
    | (go_at_call 23; refine (HT.out _ _).mono ?_; rintro e1 w1 ⟨rfl, rfl⟩; rw [ht])
    | (go_at_call 22; refine (HC.out _ _).mono ?_; rintro e1 w1 ⟨rfl, rfl⟩; rw [hn]))
  go_ret2
  exact ⟨rfl, ⟨Blk.made w 54 _, Own.nil _ 0 3 1, rfl, fun g e => by cases e⟩, (Keep.refl _ w).alloc _⟩
section
variable (w : World) (lb : Nat) (r : Option Nat) (A : Option Addr) (c : Nat) (s : CL) (h : LineAt w lb r A c s)
include h
theorem since_any : Calls Try.prog 21 #[.pointer (some ⟨lb, 0, none⟩)] w (BPost w (.int .i64 s.since)) := by
  obtain ⟨_, _, c2, _⟩ := h.cs
  have hlt := h.top.lt
  clear h
  go_enter Try.func21, Try.ntmps21
  go_wp2
  go_ret
  exact ⟨rfl, rfl⟩
omit h in
theorem answers_any (h : LineAt w lb r A c s) (hl : s.ans.length ≤ 1000) : Calls Try.prog 11 #[.pointer (some ⟨lb, 0, none⟩)] w (CopyPost w s.ans) := by
  obtain ⟨_, _, _, _, _, _, _, c7⟩ := h.cs
  have hlt := h.top.lt
  have HS := hid (h.sl.src (Keep.refl (fun _ => False) w))
  clear h
  generalize s.ans = l at *
  have HN := hid (icells_len l)
  generalize hn : l.length = n at *
  go_enter Try.func11, Try.ntmps11
  go_wp2_with (
    at_builtin
    refine EIn.law2 (.const (.slice none 0 0)) (.tmp 6) (.slice none 0 0) A n c rfl rfl rfl rfl w.heap.size 0 [] (icells l) n _ (Nat.zero_add n) rfl (Own.nil _ _ _ _) (by rw [HN.out]; omega) HS.out (icells_one _) (by omega) (by unfold maxLen; omega) (Nat.le_refl _) ?_
    intro A' c' w2 ho hg hw
    have HO := hid ho
    have HK := hid ((Keep.refl (fun _ => False) w).app (Own.nil w w.heap.size 3 1) hg (fun g h1 h2 => by omega))
    clear ho hg hw)
  go_ret
  rw [← hn] at *
  exact ⟨A', c', rfl, HO.out.sl (fun g hg => by omega), HK.out⟩
set_option maxHeartbeats 4000000 in
set_option maxRecDepth 100000 in
omit h in
theorem say_any (h : LineAt w lb r A c s) (a : Int) : Calls Try.prog 20 #[.pointer (some ⟨lb, 0, none⟩), .int .i64 a] w (LPost w lb r (sayS s a) (.int .i64 (sayE s a))) := by
  obtain ⟨c0, c1, c2, c3, c4, c5, c6, c7⟩ := h.cs
  have f0 := h.top.free 0
  have f1 := h.top.free 1
  have f2 := h.top.free 2
  have f3 := h.top.free 3
  have f4 := h.top.free 4
  have f5 := h.top.free 5
  have f6 := h.top.free 6
  have f7 := h.top.free 7
  have hlt := h.top.lt
  have H := hid h
  obtain ⟨call, st, since, cen, ep, name, ver, ans⟩ := s
  simp only at c0 c1 c2 c3 c4 c5 c6 c7
  clear h
  by_cases h0 : a < 0
  · have hE : sayE ⟨call, st, since, cen, ep, name, ver, ans⟩ a = 1 := by simp [sayE, h0]
    have hS : sayS ⟨call, st, since, cen, ep, name, ver, ans⟩ a = ⟨call, st, since, cen, ep, name, ver, ans⟩ := by unfold sayS; rw [hE]; simp
    rw [hE, hS]
    clear hE hS
    go_enter Try.func20, Try.ntmps20
    go_wp2_with fail
    go_ret
    exact LPost.self H.out
  · by_cases h15 : 15 < a
    · have hE : sayE ⟨call, st, since, cen, ep, name, ver, ans⟩ a = 1 := by simp [sayE, h0, h15]
      have hS : sayS ⟨call, st, since, cen, ep, name, ver, ans⟩ a = ⟨call, st, since, cen, ep, name, ver, ans⟩ := by unfold sayS; rw [hE]; simp
      rw [hE, hS]
      clear hE hS
      go_enter Try.func20, Try.ntmps20
      go_wp2_with fail
      go_ret
      exact LPost.self H.out
    · by_cases hst : st = 2
      · subst hst
        obtain ⟨bn, hbn⟩ : ∃ bb, (name.toList == []) = bb := ⟨_, rfl⟩
        cases bn with
        | true =>
          have hE : sayE ⟨call, 2, since, cen, ep, name, ver, ans⟩ a = 8 := by simp [sayE, h0, h15, hbn]
          have hS : sayS ⟨call, 2, since, cen, ep, name, ver, ans⟩ a = ⟨call, 2, since, cen, ep, name, ver, ans⟩ := by unfold sayS; rw [hE]; simp
          rw [hE, hS]
          clear hE hS
          go_enter Try.func20, Try.ntmps20
          go_wp2_with fail
          go_ret
          exact LPost.self H.out
        | false =>
          by_cases h200 : 200 ≤ ans.length
          · have h200i : (200 : Int) ≤ ans.length := by omega
            have hE : sayE ⟨call, 2, since, cen, ep, name, ver, ans⟩ a = 3 := by simp [sayE, h0, h15, hbn, h200]
            have hS : sayS ⟨call, 2, since, cen, ep, name, ver, ans⟩ a = ⟨call, 2, since, cen, ep, name, ver, ans⟩ := by unfold sayS; rw [hE]; simp
            rw [hE, hS]
            clear hE hS
            go_enter Try.func20, Try.ntmps20
            go_wp2_with fail
            go_ret
            exact LPost.self H.out
          · have hE : sayE ⟨call, 2, since, cen, ep, name, ver, ans⟩ a = 0 := by simp [sayE, h0, h15, hbn, h200]
            have hS : sayS ⟨call, 2, since, cen, ep, name, ver, ans⟩ a = ⟨call, 2, since, cen, ep, name, ver, ans ++ [a]⟩ := by unfold sayS; rw [hE]; simp
            rw [hE, hS]
            clear hE hS
            have hk : Same w (w.alloc (.cells #[.int .i64 a] 3)) := (Keep.refl _ w).alloc _
            have HOW := hid (World.ownsRow.alloc H.out.row (.cells #[.int .i64 a] 3))
            have hn0 : (ans.length : Int) < 200 := by omega
            have HAL := hid (icells_len ans)
            have HT := hid (show icells ans ++ [.int .i64 a] = icells (ans ++ [a]) by simp [icells])
            clear f0 f1 f2 f3 f4 f5 f6 f7
            go_enter Try.func20, Try.ntmps20
            go_wp2_with (
              at_builtin
              refine EIn.law2 (.tmp 40) (.tmp 42) (.slice A ans.length c) (some ⟨w.heap.size, 0, none⟩) 1 1 rfl rfl rfl rfl 0 ans.length (icells ans) [.int .i64 a] (ans.length + 1) _ rfl rfl HOW.out rfl (fun _ => ⟨_, rfl, src_new rfl⟩) (by intro u hu; simp at hu; subst hu; rfl) (by omega) (by unfold maxLen; omega) (Nat.zero_le _) ?_
              intro A' c' w2 ho hg hw
              obtain ⟨hp1, hp2, hp3⟩ := H.out.push (an := ans ++ [a]) hk HT.out (by simp) ho hg hw
              have d1 := hp1.at_ 1
              have d7 := hp1.at_ 7
              have e1 := hp1.free 1
              have e7 := hp1.free 7
              have hl2 := hp1.lt
              simp only [CL.cells] at d1 d7
              have HP1 := hid hp1
              have HP2 := hid hp2
              have HP3 := hid hp3
              have HOO := hid ho
              clear ho hg hw hp1 hp2 hp3)
            go_ret
            have hk2 := ((Keep.refl (· = lb) w2).put 7 (.slice A' (ans.length + 1) c')).put 1 (.int .i64 2)
            have hlen : (ans ++ [a]).length = ans.length + 1 := by simp
            refine ⟨A'.map (·.block), A', c', rfl, ⟨?_, ?_, rfl, fun g e => (HP3.out g e).1⟩, (HP2.out.wide (fun _ _ e => .inr e)).trans hk2 (fun _ _ e => .inl e), fun g e => (HP3.out g e).2⟩
            · have := (HP1.out.put 7 (.slice A' (ans.length + 1) c')).put 1 (.int .i64 2)
              simpa [CL.cells] using this
            · simp only
              rw [hlen, ← HT.out]
              exact HOO.out.keepB hk2 (fun g e => (HP3.out g (by rw [← e]; cases A' <;> rfl)).1)
      · have g2 : (st == (2 : Int)) = false := by simpa using hst
        by_cases hst4 : st = 4
        · subst hst4
          obtain ⟨bn, hbn⟩ : ∃ bb, (name.toList == []) = bb := ⟨_, rfl⟩
          cases bn with
          | true =>
            have hE : sayE ⟨call, 4, since, cen, ep, name, ver, ans⟩ a = 8 := by simp [sayE, h0, h15, hbn]
            have hS : sayS ⟨call, 4, since, cen, ep, name, ver, ans⟩ a = ⟨call, 4, since, cen, ep, name, ver, ans⟩ := by unfold sayS; rw [hE]; simp
            rw [hE, hS]
            clear hE hS
            go_enter Try.func20, Try.ntmps20
            go_wp2_with fail
            go_ret
            exact LPost.self H.out
          | false =>
            by_cases h200 : 200 ≤ ans.length
            · have h200i : (200 : Int) ≤ ans.length := by omega
              have hE : sayE ⟨call, 4, since, cen, ep, name, ver, ans⟩ a = 3 := by simp [sayE, h0, h15, hbn, h200]
              have hS : sayS ⟨call, 4, since, cen, ep, name, ver, ans⟩ a = ⟨call, 4, since, cen, ep, name, ver, ans⟩ := by unfold sayS; rw [hE]; simp
              rw [hE, hS]
              clear hE hS
              go_enter Try.func20, Try.ntmps20
              go_wp2_with fail
              go_ret
              exact LPost.self H.out
            · have hE : sayE ⟨call, 4, since, cen, ep, name, ver, ans⟩ a = 0 := by simp [sayE, h0, h15, hbn, h200]
              have hS : sayS ⟨call, 4, since, cen, ep, name, ver, ans⟩ a = ⟨call, 2, since, cen, ep, name, ver, ans ++ [a]⟩ := by unfold sayS; rw [hE]; simp
              rw [hE, hS]
              clear hE hS
              have hk : Same w (w.alloc (.cells #[.int .i64 a] 3)) := (Keep.refl _ w).alloc _
              have HOW := hid (World.ownsRow.alloc H.out.row (.cells #[.int .i64 a] 3))
              have hn0 : (ans.length : Int) < 200 := by omega
              have HAL := hid (icells_len ans)
              have HT := hid (show icells ans ++ [.int .i64 a] = icells (ans ++ [a]) by simp [icells])
              clear f0 f1 f2 f3 f4 f5 f6 f7
              go_enter Try.func20, Try.ntmps20
              go_wp2_with (
                at_builtin
                refine EIn.law2 (.tmp 40) (.tmp 42) (.slice A ans.length c) (some ⟨w.heap.size, 0, none⟩) 1 1 rfl rfl rfl rfl 0 ans.length (icells ans) [.int .i64 a] (ans.length + 1) _ rfl rfl HOW.out rfl (fun _ => ⟨_, rfl, src_new rfl⟩) (by intro u hu; simp at hu; subst hu; rfl) (by omega) (by unfold maxLen; omega) (Nat.zero_le _) ?_
                intro A' c' w2 ho hg hw
                obtain ⟨hp1, hp2, hp3⟩ := H.out.push (an := ans ++ [a]) hk HT.out (by simp) ho hg hw
                have d1 := hp1.at_ 1
                have d7 := hp1.at_ 7
                have e1 := hp1.free 1
                have e7 := hp1.free 7
                have hl2 := hp1.lt
                simp only [CL.cells] at d1 d7
                have HP1 := hid hp1
                have HP2 := hid hp2
                have HP3 := hid hp3
                have HOO := hid ho
                clear ho hg hw hp1 hp2 hp3)
              go_ret
              have hk2 := ((Keep.refl (· = lb) w2).put 7 (.slice A' (ans.length + 1) c')).put 1 (.int .i64 2)
              have hlen : (ans ++ [a]).length = ans.length + 1 := by simp
              refine ⟨A'.map (·.block), A', c', rfl, ⟨?_, ?_, rfl, fun g e => (HP3.out g e).1⟩, (HP2.out.wide (fun _ _ e => .inr e)).trans hk2 (fun _ _ e => .inl e), fun g e => (HP3.out g e).2⟩
              · have := (HP1.out.put 7 (.slice A' (ans.length + 1) c')).put 1 (.int .i64 2)
                simpa [CL.cells] using this
              · simp only
                rw [hlen, ← HT.out]
                exact HOO.out.keepB hk2 (fun g e => (HP3.out g (by rw [← e]; cases A' <;> rfl)).1)
        · have g4 : (st == (4 : Int)) = false := by simpa using hst4
          have hE : sayE ⟨call, st, since, cen, ep, name, ver, ans⟩ a = 8 := by simp [sayE, h0, h15, hst, hst4]
          have hS : sayS ⟨call, st, since, cen, ep, name, ver, ans⟩ a = ⟨call, st, since, cen, ep, name, ver, ans⟩ := by unfold sayS; rw [hE]; simp
          rw [hE, hS]
          clear hE hS
          go_enter Try.func20, Try.ntmps20
          go_wp2_with fail
          go_ret
          exact LPost.self H.out
end
end Go.Proofs.Ytkkenfgpmoediaa

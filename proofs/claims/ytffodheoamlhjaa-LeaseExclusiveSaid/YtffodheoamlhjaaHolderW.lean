import Derived.Test.YtffodheoamlhjaaPlayed
namespace Go.Proofs.Ytffodheoamlhjaa
open Go.RowKit

/-! ## Epochs only grow, one at a time -/
def Eps (l : List St) (N : Int) : Prop := ∀ s ∈ l, 1 ≤ s.e ∧ s.e ≤ N
theorem Eps.set {l : List St} {N M : Int} (h : Eps l N) (hNM : N ≤ M) (i : Nat) (s : St) (hs : 1 ≤ s.e ∧ s.e ≤ M) : Eps (l.set i s) M := by
  intro x hx
  rcases List.mem_or_eq_of_mem_set hx with h1 | rfl
  · have := h x h1; omega
  · exact hs
theorem Eps.more {l : List St} {N M : Int} (h : Eps l N) (hNM : N ≤ M) : Eps l M := fun x hx => by have := h x hx; omega
theorem wrap_small (a : Int) (h0 : 0 ≤ a) (h1 : a ≤ 1000000) : wrap64 (a + 1) = a + 1 := IntWalk.wrap64_in _ (by omega)
theorem acq_eps {l : List St} {N : Int} (h : Eps l N) (hN : N ≤ 1000000) (t w e n ln : Int) : Eps (acqR l t w e n ln).1 (N + 1) := by
  unfold acqR
  split
  · split
    · rename_i s hs
      have hm := h s (List.mem_of_getElem? hs)
      split
      · rename_i he
        split
        · exact h.more (by omega)
        · refine h.set (by omega) _ _ ?_
          simp only
          rw [← he, wrap_small _ (by omega) (by omega)]
          omega
      · exact h.more (by omega)
    · exact h.more (by omega)
  · exact h.more (by omega)
theorem ren_eps {l : List St} {N : Int} (h : Eps l N) (t w e n ln : Int) : Eps (renR l t w e n ln).1 N := by
  unfold renR
  split
  · split
    · rename_i s hs
      have hm := h s (List.mem_of_getElem? hs)
      split
      · split
        · exact h.set (Int.le_refl _) _ _ hm
        · exact h
      · exact h
    · exact h
  · exact h
theorem rel_eps {l : List St} {N : Int} (h : Eps l N) (t w e n : Int) : Eps (relR l t w e n).1 N := by
  unfold relR
  split
  · split
    · rename_i s hs
      have hm := h s (List.mem_of_getElem? hs)
      split
      · split
        · exact h.set (Int.le_refl _) _ _ hm
        · exact h
      · exact h
    · exact h
  · exact h
theorem do_eps {l : List St} {N : Int} (h : Eps l N) (hN : N ≤ 1000000) (a : Ac) : Eps (doR l a) (N + 1) := by
  unfold doR
  split
  · exact acq_eps h hN _ _ _ _ _
  · split
    · exact (ren_eps h _ _ _ _ _).more (by omega)
    · split
      · exact (rel_eps h _ _ _ _).more (by omega)
      · exact h.more (by omega)
theorem fold_eps : ∀ (ops : List Ac) (l : List St) (N : Int), Eps l N → N + ops.length ≤ 1000000 → Eps (ops.foldl doR l) (N + ops.length)
  | [], l, N, h, _ => by simpa using h
  | a :: ops, l, N, h, hN => by
    rw [List.length_cons] at hN ⊢
    have := fold_eps ops (doR l a) (N + 1) (do_eps h (by omega) a) (by omega)
    rw [List.foldl_cons]
    exact this.more (by omega)
theorem start_eps (hs : List Int) (len : Int) : Eps (hs.map (mkSt len)) 1 := by
  intro s hx
  simp only [List.mem_map] at hx
  obtain ⟨h, _, rfl⟩ := hx
  simp [mkSt]

/-! ## Holder -/
def holdB (l : List St) (thing now : Int) : Int × Int × Bool :=
  if 0 ≤ thing then (match l[thing.toNat]? with | some s => if now ≤ s.u then (s.h, s.e, true) else (0, 0, false) | none => (0, 0, false)) else (0, 0, false)
set_option maxHeartbeats 1000000 in
theorem holder_any (w : World) (tb sb : Nat) (l : List St) (hT : IsTable w tb sb l) (thing now : Int) :
    Calls Try.prog 19 #[.pointer (some ⟨tb, 0, none⟩), .int .i64 thing, .int .i64 now] w fun e w' =>
      e = .returned (.tuple #[.int .i64 (holdB l thing now).1, .int .i64 (holdB l thing now).2.1, .bool (holdB l thing now).2.2]) ∧ Same w w' := by
  have hsl := hT.sl
  have hs := hT.small
  unfold holdB
  by_cases h0 : 0 ≤ thing
  · rw [if_pos h0]
    obtain ⟨i, rfl⟩ := Int.eq_ofNat_of_zero_le h0
    simp only [Int.toNat_natCast]
    by_cases hi : i < l.length
    · obtain ⟨s, hls, c0, c1, c2, c3⟩ := hT.at_ i hi
      rw [hls]
      simp only
      clear hls hT
      generalize l.length = n at *
      by_cases hn : now ≤ s.u
      · rw [if_pos hn]
        have hi' : (i : Int) < n := by omega
        go_enter Try.func19, Try.ntmps19
        go_wp2
        go_quiet (fail)
        go_wp2
        go_ret3
        exact ⟨rfl, (Keep.refl _ _).drewN _⟩
      · rw [if_neg hn]
        go_enter Try.func19, Try.ntmps19
        go_wp2
        go_ret3
        exact ⟨rfl, Keep.refl _ _⟩
    · rw [List.getElem?_eq_none (by omega)]
      clear hT
      generalize l.length = n at *
      go_enter Try.func19, Try.ntmps19
      go_wp2
      go_ret3
      exact ⟨rfl, Keep.refl _ _⟩
  · rw [if_neg h0]
    clear hT
    go_enter Try.func19, Try.ntmps19
    go_wp2
    go_ret3
    exact ⟨rfl, Keep.refl _ _⟩

theorem hold_last (l : List St) (thing now : Int) (hE : Eps l 1000) :
    ((lastR l thing).2.1 = 0 ∧ holdB l thing now = (0, 0, false)) ∨ (¬ (lastR l thing).2.1 = 0 ∧ (lastR l thing).2.2 < now ∧ holdB l thing now = (0, 0, false)) ∨
    (¬ (lastR l thing).2.1 = 0 ∧ now ≤ (lastR l thing).2.2 ∧ holdB l thing now = ((lastR l thing).1, (lastR l thing).2.1, true)) := by
  unfold lastR holdB
  by_cases h0 : 0 ≤ thing
  · rw [if_pos h0, if_pos h0]
    cases hs : l[thing.toNat]? with
    | none => exact .inl ⟨rfl, rfl⟩
    | some s =>
      have hm := hE s (List.mem_of_getElem? hs)
      simp only
      by_cases hn : now ≤ s.u
      · rw [if_pos hn]; right; right; exact ⟨by omega, hn, rfl⟩
      · rw [if_neg hn]; right; left; exact ⟨by omega, by omega, rfl⟩
  · rw [if_neg h0, if_neg h0]; exact .inl ⟨rfl, rfl⟩

set_option maxHeartbeats 1000000 in
theorem leaseHolder_walk (w : World) (B : Option Addr) (m d : Nat) (ops : List Ac) (hB : Sl w (fun _ => False) 6 B m (acFlat ops)) (thing now : Int) :
    Calls Try.prog 7 #[.slice B m d, .int .i64 thing, .int .i64 now] w fun e w' => e = .returned (.bool true) ∧ Same w w' := by
  have hml : ops.length = m := by have := hB.len; rw [acFlat, flat_len Ac.cells 6 (fun _ => rfl)] at this; omega
  have hk0 : Same w (w.alloc (.cells #[.int .i64 0, .int .i64 1, .int .i64 1] 3)) := (Keep.refl _ _).alloc _
  have HPp : Calls Try.prog 12 #[.slice (some ⟨w.heap.size, 0, none⟩) 3 3, .int .i64 10, .slice B m d] (w.alloc (.cells #[.int .i64 0, .int .i64 1, .int .i64 1] 3)) fun e w' =>
    (∃ tb sb A c L, e = .returned (.tuple #[.pointer (some ⟨tb, 0, none⟩), .slice A L.length c, .bool true]) ∧ IsTable w' tb sb L ∧ Th w' (fun g => g = sb ∨ g = tb) A L ∧ Same (w.alloc (.cells #[.int .i64 0, .int .i64 1, .int .i64 1] 3)) w' ∧ Eps L 1000) ∨
    (∃ A c, e = .returned (.tuple #[.pointer none, .slice A 0 c, .bool true]) ∧ Same (w.alloc (.cells #[.int .i64 0, .int .i64 1, .int .i64 1] 3)) w') := by
    by_cases hm : m ≤ 60
    · refine (played_any _ (some ⟨w.heap.size, 0, none⟩) 3 3 [0, 1, 1] 10 (Sl.of_blk (Blk.made w 3 #[.int .i64 0, .int .i64 1, .int .i64 1]) rfl (fun f => f)) B m d ops (hB.same hk0)).mono ?_
      rintro e w' (⟨tb, sb, A, c, he, _, _, hT, hH, hk⟩ | h)
      · exact .inl ⟨tb, sb, A, c, _, he, hT, hH, hk, (fold_eps ops _ 1 (start_eps _ _) (by omega)).more (by omega)⟩
      · exact .inr h
    · have hp : 60 < m := by omega
      refine (played_big (w.alloc (.cells #[.int .i64 0, .int .i64 1, .int .i64 1] 3)) (some ⟨w.heap.size, 0, none⟩) 3 3 [] 10 B m d [] (.inr hp)).mono ?_
      rintro e w' (⟨tb, sb, A, c, he, _, _, hT, hH, hk⟩ | h)
      · exact .inl ⟨tb, sb, A, c, _, he, hT, hH, hk, by intro s hs; simp at hs⟩
      · exact .inr h
  have HP := hid HPp
  clear HPp hB hml
  go_enter Try.func7, Try.ntmps7
  go_wp2_with fail
  refine HP.out.mono ?_
  clear HP
  rintro e w1 (⟨tb, sb, X, cx, L, rfl, hT, hH, hk, hE⟩ | ⟨X, cx, rfl, hk⟩)
  · have hsm := hT.small
    have HT := hid hT
    have HH := hid hH
    have hk1 := hk0.then hk
    have HL := hold_last L thing now hE
    have h19 := hid (holder_any w1 tb sb L hT thing now)
    have h14 := hid (fun W (h : Same w1 W) => rlast_any W _ X cx L (hH.same h) hsm thing)
    clear hT hH hE hk
    generalize lastR L thing = R at *
    generalize holdB L thing now = Q at *
    obtain ⟨r1, r2, r3⟩ := R
    simp only at HL
    go_wp2_with fail
    refine h19.out.mono ?_
    rintro e w2 ⟨rfl, hk2⟩
    go_wp2_with fail
    refine (h14.out w2 hk2).mono ?_
    rintro e w3 ⟨gvv, rfl, hk3⟩
    have hk4 := (hk1.then hk2).then hk3
    clear h19 h14 hk2 hk3 hk1 hk0
    have HL' : (r2 = 0 ∧ Q = (0, 0, false)) ∨ ((r2 == 0) = false ∧ r3 < now ∧ Q = (0, 0, false)) ∨ ((r2 == 0) = false ∧ now ≤ r3 ∧ Q = (r1, r2, true)) := by simpa using HL
    clear HL
    rcases HL' with ⟨rfl, rfl⟩ | ⟨h1, h2, rfl⟩ | ⟨h1, h2, rfl⟩
    all_goals
      go_wp2_with (go_at_call 11; refine (awake_any _).mono ?_; rintro e w' ⟨rfl, hk'⟩)
      go_ret
      exact ⟨rfl, (hk4.alloc _).then hk'⟩
  · go_wp2_with (go_at_call 11; refine (awake_any _).mono ?_; rintro e w' ⟨rfl, hk'⟩)
    go_ret
    exact ⟨rfl, (hk0.then hk).then hk'⟩
end Go.Proofs.Ytffodheoamlhjaa

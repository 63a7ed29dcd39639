import Derived.Test.YtmkcphhgimlkgaaLeW
namespace Go.Proofs.Ytmkcphhgimlkgaa
open Go.RowKit

abbrev good (n : Nat) (thing who now len : Int) : Bool := decide (0 ≤ thing) && decide (thing < n) && vH who && vL len && vN now

set_option maxHeartbeats 1000000 in
theorem take_bad (w : World) (A : Option Addr) (c : Nat) (l : List St) (hs : l.length ≤ 64) (thing who ep now len : Int) (hb : good l.length thing who now len = false) :
    Calls Try.prog 50 #[.slice A l.length c, .int .i64 thing, .int .i64 who, .int .i64 ep, .int .i64 now, .int .i64 len] w fun e w' =>
      e = .returned (.tuple #[.slice A l.length c, .int .i64 0, .int .i64 1]) ∧ w = w' := by
  have HF := hid (wrong_bad w (fun _ => False) A c l hs thing who ep now len hb)
  clear hb
  go_enter Try.func50, Try.ntmps50
  go_wp2_with (go_at_call 77; refine (Hid.out HF).mono ?_; rintro e w' ⟨rfl, rfl⟩)
  go_ret3
  exact ⟨rfl, rfl⟩
set_option maxHeartbeats 1000000 in
theorem hold_bad (w : World) (A : Option Addr) (c : Nat) (l : List St) (hs : l.length ≤ 64) (thing who ep now len : Int) (hb : good l.length thing who now len = false) :
    Calls Try.prog 51 #[.slice A l.length c, .int .i64 thing, .int .i64 who, .int .i64 ep, .int .i64 now, .int .i64 len] w fun e w' =>
      e = .returned (.tuple #[.slice A l.length c, .int .i64 1]) ∧ w = w' := by
  have HF := hid (wrong_bad w (fun _ => False) A c l hs thing who ep now len hb)
  clear hb
  go_enter Try.func51, Try.ntmps51
  go_wp2_with (go_at_call 77; refine (Hid.out HF).mono ?_; rintro e w' ⟨rfl, rfl⟩)
  go_ret2
  exact ⟨rfl, rfl⟩
set_option maxHeartbeats 1000000 in
theorem give_bad (w : World) (A : Option Addr) (c : Nat) (l : List St) (hs : l.length ≤ 64) (thing who ep now : Int) (hb : good l.length thing who now 1 = false) :
    Calls Try.prog 52 #[.slice A l.length c, .int .i64 thing, .int .i64 who, .int .i64 ep, .int .i64 now] w fun e w' =>
      e = .returned (.tuple #[.slice A l.length c, .int .i64 1]) ∧ w = w' := by
  have HF := hid (wrong_bad w (fun _ => False) A c l hs thing who ep now 1 hb)
  clear hb
  go_enter Try.func52, Try.ntmps52
  go_wp2_with (go_at_call 77; refine (Hid.out HF).mono ?_; rintro e w' ⟨rfl, rfl⟩)
  go_ret2
  exact ⟨rfl, rfl⟩

section
variable (w : World) (Av : Nat → Prop) (A : Option Addr) (c : Nat) (l : List St) (hT : Th w Av A l) (hs : l.length ≤ 64) (i : Nat) (s : St) (who ep now len : Int) (hi : l[i]? = some s)
  (h3 : vH who = true) (h4 : vL len = true) (h5 : vN now = true)
include hT hs hi h3 h5
set_option maxHeartbeats 1000000 in
include h4 in
theorem take_stale (h6 : ¬ s.e = ep) :
    Calls Try.prog 50 #[.slice A l.length c, .int .i64 i, .int .i64 who, .int .i64 ep, .int .i64 now, .int .i64 len] w fun e w' =>
      e = .returned (.tuple #[.slice A l.length c, .int .i64 0, .int .i64 9]) ∧ w = w' := by
  have HF := wrong_good w Av A c l hT hs i s who ep now len hi h3 h4 h5
  rw [if_neg h6] at HF
  have HF := hid HF
  clear hT
  go_enter Try.func50, Try.ntmps50
  go_wp2_with (go_at_call 77; refine (Hid.out HF).mono ?_; rintro e w' ⟨rfl, rfl⟩)
  go_ret3
  exact ⟨rfl, rfl⟩
set_option maxHeartbeats 1000000 in
include h4 in
theorem hold_stale (h6 : ¬ s.e = ep) :
    Calls Try.prog 51 #[.slice A l.length c, .int .i64 i, .int .i64 who, .int .i64 ep, .int .i64 now, .int .i64 len] w fun e w' =>
      e = .returned (.tuple #[.slice A l.length c, .int .i64 9]) ∧ w = w' := by
  have HF := wrong_good w Av A c l hT hs i s who ep now len hi h3 h4 h5
  rw [if_neg h6] at HF
  have HF := hid HF
  clear hT
  go_enter Try.func51, Try.ntmps51
  go_wp2_with (go_at_call 77; refine (Hid.out HF).mono ?_; rintro e w' ⟨rfl, rfl⟩)
  go_ret2
  exact ⟨rfl, rfl⟩
set_option maxHeartbeats 1000000 in
theorem give_stale (h6 : ¬ s.e = ep) :
    Calls Try.prog 52 #[.slice A l.length c, .int .i64 i, .int .i64 who, .int .i64 ep, .int .i64 now] w fun e w' =>
      e = .returned (.tuple #[.slice A l.length c, .int .i64 9]) ∧ w = w' := by
  have HF := wrong_good w Av A c l hT hs i s who ep now 1 hi h3 rfl h5
  rw [if_neg h6] at HF
  have HF := hid HF
  clear hT
  go_enter Try.func52, Try.ntmps52
  go_wp2_with (go_at_call 77; refine (Hid.out HF).mono ?_; rintro e w' ⟨rfl, rfl⟩)
  go_ret2
  exact ⟨rfl, rfl⟩
set_option maxHeartbeats 1000000 in
include h4 in
theorem take_busy (h6 : s.e = ep) (h7 : now ≤ s.u) :
    Calls Try.prog 50 #[.slice A l.length c, .int .i64 i, .int .i64 who, .int .i64 ep, .int .i64 now, .int .i64 len] w fun e w' =>
      e = .returned (.tuple #[.slice A l.length c, .int .i64 0, .int .i64 10]) ∧ w = w' := by
  have HF := wrong_good w Av A c l hT hs i s who ep now len hi h3 h4 h5
  rw [if_pos h6] at HF
  have HF := hid HF
  obtain ⟨b, off, rfl, hb, c0, c1, c2, c3⟩ := hT.at4 hi
  have hi' := (List.getElem?_eq_some_iff.1 hi).1
  clear hT hi h6
  generalize l.length = n at *
  go_enter Try.func50, Try.ntmps50
  go_wp2_with (go_at_call 77; refine (Hid.out HF).mono ?_; rintro e w' ⟨rfl, rfl⟩)
  go_ret3
  exact ⟨rfl, rfl⟩
set_option maxHeartbeats 1000000 in
include h4 in
theorem take_ok (h6 : s.e = ep) (h7 : s.u < now) :
    Calls Try.prog 50 #[.slice A l.length c, .int .i64 i, .int .i64 who, .int .i64 ep, .int .i64 now, .int .i64 len] w fun e w' =>
      ∃ A' c', e = .returned (.tuple #[.slice A' (l.set i ⟨who, wrap64 (ep + 1), now + len, false⟩).length c', .int .i64 (wrap64 (ep + 1)), .int .i64 0]) ∧
        Th w' (· < w.heap.size) A' (l.set i ⟨who, wrap64 (ep + 1), now + len, false⟩) ∧ Same w w' := by
  have HF := wrong_good w Av A c l hT hs i s who ep now len hi h3 h4 h5
  rw [if_pos h6] at HF
  have HF := hid HF
  have hi' := (List.getElem?_eq_some_iff.1 hi).1
  have HW := hid (with_any w Av A c l hT hs i ⟨who, wrap64 (ep + 1), now + len, false⟩ hi')
  obtain ⟨b, off, rfl, hb, c0, c1, c2, c3⟩ := hT.at4 hi
  have hn : 0 ≤ now ∧ now ≤ 1099511627776 := by simpa [vN] using h5
  have hl : 1 ≤ len ∧ len ≤ 1048576 := by simpa [vL] using h4
  obtain ⟨n1, n2⟩ := hn
  obtain ⟨l1, l2⟩ := hl
  generalize hys : l.set i ⟨who, wrap64 (ep + 1), now + len, false⟩ = l' at *
  clear hT hi h6 hys
  generalize l.length = n at *
  go_enter Try.func50, Try.ntmps50
  go_wp2_with (first | (go_at_call 77; refine (Hid.out HF).mono ?_; rintro e w' ⟨rfl, rfl⟩) | (go_at_call 78; refine (Hid.out HW).mono ?_; rintro e w' ⟨A', c', rfl, hT', hk'⟩))
  go_ret3
  exact ⟨A', c', rfl, hT', hk'⟩
end

set_option maxHeartbeats 1000000 in
theorem rheld_any (w : World) (s : St) (who now : Int) :
    Calls Try.prog 79 #[.agg s.th.toArray, .int .i64 who, .int .i64 now] w fun e w' => e = .returned (.int .i64 (heldE s who now)) ∧ Same w w' := by
  obtain ⟨h, ee, u, r⟩ := s
  simp only [St.th]
  have g1 : gv true = 1 := rfl
  have g0 : gv false = 0 := rfl
  by_cases h1 : who = h
  · subst h1
    cases r
    · by_cases h2 : u < now
      · rw [g0, show heldE ⟨who, ee, u, false⟩ who now = 8 by simp [heldE, h2]]
        go_enter Try.func79, Try.ntmps79
        go_wp2
        go_ret
        exact ⟨rfl, (Keep.refl _ _).alloc _⟩
      · rw [g0, show heldE ⟨who, ee, u, false⟩ who now = 0 by simp [heldE, h2]]
        go_enter Try.func79, Try.ntmps79
        go_wp2
        go_ret
        exact ⟨rfl, (Keep.refl _ _).alloc _⟩
    · rw [g1, show heldE ⟨who, ee, u, true⟩ who now = 8 by simp [heldE]]
      go_enter Try.func79, Try.ntmps79
      go_wp2
      go_ret
      exact ⟨rfl, (Keep.refl _ _).alloc _⟩
  · have h1' : (h == who) = false := by simp; omega
    rw [show heldE ⟨h, ee, u, r⟩ who now = 14 by simp [heldE, h1]]
    go_enter Try.func79, Try.ntmps79
    go_wp2
    go_ret
    exact ⟨rfl, (Keep.refl _ _).alloc _⟩

section
variable (w : World) (Av : Nat → Prop) (A : Option Addr) (c : Nat) (l : List St) (hT : Th w Av A l) (hs : l.length ≤ 64) (i : Nat) (s : St) (who ep now len : Int) (hi : l[i]? = some s)
  (h3 : vH who = true) (h4 : vL len = true) (h5 : vN now = true)
include hT hs hi h3 h5
set_option maxHeartbeats 1000000 in
include h4 in
theorem hold_not (h6 : s.e = ep) (h7 : ¬ heldE s who now = 0) :
    Calls Try.prog 51 #[.slice A l.length c, .int .i64 i, .int .i64 who, .int .i64 ep, .int .i64 now, .int .i64 len] w fun e w' =>
      e = .returned (.tuple #[.slice A l.length c, .int .i64 (heldE s who now)]) ∧ Same w w' := by
  have HF := wrong_good w Av A c l hT hs i s who ep now len hi h3 h4 h5
  rw [if_pos h6] at HF
  have HF := hid HF
  have HH := hid (fun W => rheld_any W s who now)
  obtain ⟨b, off, rfl, hb, c0, c1, c2, c3⟩ := hT.at4 hi
  have hi' := (List.getElem?_eq_some_iff.1 hi).1
  have h7' : (heldE s who now == 0) = false := by simpa using h7
  clear hT hi h6 h7
  generalize l.length = n at *
  generalize heldE s who now = E at *
  go_enter Try.func51, Try.ntmps51
  go_wp2_with (first | (go_at_call 77; refine (Hid.out HF).mono ?_; rintro e w' ⟨rfl, rfl⟩) | (go_at_call 79; refine (Hid.out HH _).mono ?_; rintro e w' ⟨rfl, hk⟩))
  go_ret2
  exact ⟨rfl, ((Keep.refl _ _).alloc _).then hk⟩
set_option maxHeartbeats 1000000 in
theorem give_not (h6 : s.e = ep) (h7 : ¬ heldE s who now = 0) :
    Calls Try.prog 52 #[.slice A l.length c, .int .i64 i, .int .i64 who, .int .i64 ep, .int .i64 now] w fun e w' =>
      e = .returned (.tuple #[.slice A l.length c, .int .i64 (heldE s who now)]) ∧ Same w w' := by
  have HF := wrong_good w Av A c l hT hs i s who ep now 1 hi h3 rfl h5
  rw [if_pos h6] at HF
  have HF := hid HF
  have HH := hid (fun W => rheld_any W s who now)
  obtain ⟨b, off, rfl, hb, c0, c1, c2, c3⟩ := hT.at4 hi
  have hi' := (List.getElem?_eq_some_iff.1 hi).1
  have h7' : (heldE s who now == 0) = false := by simpa using h7
  clear hT hi h6 h7
  generalize l.length = n at *
  generalize heldE s who now = E at *
  go_enter Try.func52, Try.ntmps52
  go_wp2_with (first | (go_at_call 77; refine (Hid.out HF).mono ?_; rintro e w' ⟨rfl, rfl⟩) | (go_at_call 79; refine (Hid.out HH _).mono ?_; rintro e w' ⟨rfl, hk⟩))
  go_ret2
  exact ⟨rfl, ((Keep.refl _ _).alloc _).then hk⟩
set_option maxHeartbeats 1000000 in
theorem give_ok (h6 : s.e = ep) (h7 : heldE s who now = 0) :
    Calls Try.prog 52 #[.slice A l.length c, .int .i64 i, .int .i64 who, .int .i64 ep, .int .i64 now] w fun e w' =>
      ∃ A' c', e = .returned (.tuple #[.slice A' (l.set i ⟨s.h, s.e, s.u, true⟩).length c', .int .i64 0]) ∧ Th w' (· < w.heap.size) A' (l.set i ⟨s.h, s.e, s.u, true⟩) ∧ Same w w' := by
  have HF := wrong_good w Av A c l hT hs i s who ep now 1 hi h3 rfl h5
  rw [if_pos h6] at HF
  have HF := hid HF
  have HH := fun W => rheld_any W s who now
  rw [h7] at HH
  have HH := hid HH
  have hi' := (List.getElem?_eq_some_iff.1 hi).1
  have HW := hid (fun W (h : Th W Av A l) => with_any W Av A c l h hs i ⟨s.h, s.e, s.u, true⟩ hi')
  obtain ⟨b, off, rfl, hb, c0, c1, c2, c3⟩ := hT.at4 hi
  have HT := hid hT
  have hk0 : Same w (w.alloc (.cells s.th.toArray 72)) := (Keep.refl _ _).alloc _
  have hB := hid (Blk.made w 72 s.th.toArray)
  clear hT hi h6 h7
  go_enter Try.func52, Try.ntmps52
  go_wp2_with fail
  refine (Hid.out HF).mono ?_
  rintro e w' ⟨rfl, rfl⟩
  go_wp2_with fail
  refine (Hid.out HH _).mono ?_
  rintro e w1 ⟨rfl, hk⟩
  have hB1 := hB.out.keep hk (fun f => f)
  have hz := hB1.lt
  have b0 : w1.cell? ⟨w.heap.size, 0, none⟩ = some (.int .i64 s.h) := hB1.at_ 0
  have b1 : w1.cell? ⟨w.heap.size, 1, none⟩ = some (.int .i64 s.e) := hB1.at_ 1
  have b2 : w1.cell? ⟨w.heap.size, 2, none⟩ = some (.int .i64 s.u) := hB1.at_ 2
  have b3 : w1.cell? ⟨w.heap.size, 3, none⟩ = some (.int .i64 (gv s.r)) := hB1.at_ 3
  have f3 := hB1.free 3
  have hk1 := hid (hk0.then hk)
  clear hB1 hk
  go_wp2_with fail
  refine (Hid.out HW _ (HT.out.same (hk1.out.setCell (p := ⟨w.heap.size, 3, none⟩) (fun h => absurd h (by simp)) (.int .i64 1)))).mono ?_
  rintro e w2 ⟨A', c', rfl, hT', hk'⟩
  go_wp2
  go_ret2
  refine ⟨A', c', by rw [List.length_set]; rfl, ?_, (hk1.out.setCell (p := ⟨w.heap.size, 3, none⟩) (fun h => absurd h (by simp)) (.int .i64 1)).then hk'⟩
  exact hT'.wide (fun i _ h => by have := hk1.out.size; simp; omega)
set_option maxHeartbeats 1000000 in
include h4 in
theorem hold_ok (h6 : s.e = ep) (h7 : heldE s who now = 0) :
    Calls Try.prog 51 #[.slice A l.length c, .int .i64 i, .int .i64 who, .int .i64 ep, .int .i64 now, .int .i64 len] w fun e w' =>
      ∃ A' c', e = .returned (.tuple #[.slice A' (l.set i ⟨s.h, s.e, max s.u (now + len), s.r⟩).length c', .int .i64 0]) ∧ Th w' (· < w.heap.size) A' (l.set i ⟨s.h, s.e, max s.u (now + len), s.r⟩) ∧ Same w w' := by
  have HF := wrong_good w Av A c l hT hs i s who ep now len hi h3 h4 h5
  rw [if_pos h6] at HF
  have HF := hid HF
  have HH := fun W => rheld_any W s who now
  rw [h7] at HH
  have HH := hid HH
  have hi' := (List.getElem?_eq_some_iff.1 hi).1
  have HW := hid (fun W m (h : Th W Av A l) => with_any W Av A c l h hs i ⟨s.h, s.e, m, s.r⟩ hi')
  obtain ⟨b, off, rfl, hb, c0, c1, c2, c3⟩ := hT.at4 hi
  have HT := hid hT
  have hk0 : Same w (w.alloc (.cells s.th.toArray 72)) := (Keep.refl _ _).alloc _
  have hB := hid (Blk.made w 72 s.th.toArray)
  have hn : 0 ≤ now ∧ now ≤ 1099511627776 := by simpa [vN] using h5
  have hl : 1 ≤ len ∧ len ≤ 1048576 := by simpa [vL] using h4
  obtain ⟨n1, n2⟩ := hn
  obtain ⟨l1, l2⟩ := hl
  clear hT hi h6 h7
  go_enter Try.func51, Try.ntmps51
  go_wp2_with fail
  refine (Hid.out HF).mono ?_
  rintro e w' ⟨rfl, rfl⟩
  go_wp2_with fail
  refine (Hid.out HH _).mono ?_
  rintro e w1 ⟨rfl, hk⟩
  have hB1 := hB.out.keep hk (fun f => f)
  have hz := hB1.lt
  have b0 : w1.cell? ⟨w.heap.size, 0, none⟩ = some (.int .i64 s.h) := hB1.at_ 0
  have b1 : w1.cell? ⟨w.heap.size, 1, none⟩ = some (.int .i64 s.e) := hB1.at_ 1
  have b2 : w1.cell? ⟨w.heap.size, 2, none⟩ = some (.int .i64 s.u) := hB1.at_ 2
  have b3 : w1.cell? ⟨w.heap.size, 3, none⟩ = some (.int .i64 (gv s.r)) := hB1.at_ 3
  have f2 := hB1.free 2
  have hk1 := hid (hk0.then hk)
  clear hB1 hk
  by_cases hm : s.u < now + len
  · have Hm := hid (show max s.u (now + len) = now + len by omega)
    go_wp2_with fail
    refine (Hid.out HW _ (now + len) (HT.out.same (hk1.out.setCell (p := ⟨w.heap.size, 2, none⟩) (fun h => absurd h (by simp)) (.int .i64 (now + len))))).mono ?_
    rintro e w2 ⟨A', c', rfl, hT', hk'⟩
    go_wp2
    go_ret2
    refine ⟨A', c', by rw [List.length_set]; rfl, ?_, (hk1.out.setCell (p := ⟨w.heap.size, 2, none⟩) (fun h => absurd h (by simp)) (.int .i64 (now + len))).then hk'⟩
    rw [Hm.out]
    exact hT'.wide (fun i _ h => by have := hk1.out.size; simp; omega)
  · have Hm := hid (show max s.u (now + len) = s.u by omega)
    go_wp2_with fail
    refine (Hid.out HW _ s.u (HT.out.same hk1.out)).mono ?_
    rintro e w2 ⟨A', c', rfl, hT', hk'⟩
    go_wp2
    go_ret2
    refine ⟨A', c', by rw [List.length_set]; rfl, ?_, hk1.out.then hk'⟩
    rw [Hm.out]
    exact hT'.wide (fun i _ h => by have := hk1.out.size; omega)
end

/-! ## Take, Hold, Give, whatever the arguments -/
section
variable (w : World) (Av : Nat → Prop) (hAv : ∀ i, Av i → i < w.heap.size) (A : Option Addr) (c : Nat) (l : List St) (hT : Th w Av A l) (hs : l.length ≤ 64) (thing who ep now len : Int)
include hAv hT hs
theorem take_any : Calls Try.prog 50 #[.slice A l.length c, .int .i64 thing, .int .i64 who, .int .i64 ep, .int .i64 now, .int .i64 len] w fun e w' =>
      ∃ A' c', e = .returned (.tuple #[.slice A' (acqR l thing who ep now len).1.length c', .int .i64 (acqR l thing who ep now len).2.1, .int .i64 (acqR l thing who ep now len).2.2]) ∧
        Th w' Av A' (acqR l thing who ep now len).1 ∧ Same w w' := by
  unfold acqR
  by_cases hb : good l.length thing who now len = true
  · rw [if_pos hb]
    simp only [good, Bool.and_eq_true, decide_eq_true_eq] at hb
    obtain ⟨⟨⟨⟨h0, h1⟩, h2⟩, h3⟩, h4⟩ := hb
    obtain ⟨i, rfl⟩ := Int.eq_ofNat_of_zero_le h0
    obtain ⟨s, hi⟩ := get_some (l := l) (k := i) (by omega)
    simp only [Int.toNat_natCast, hi]
    by_cases h6 : s.e = ep
    · rw [if_pos h6]
      by_cases h7 : now ≤ s.u
      · rw [if_pos h7]
        exact (take_busy w Av A c l hT hs i s who ep now len hi h2 h3 h4 h6 h7).mono fun e w' ⟨he, hw⟩ => by subst hw; exact ⟨A, c, he, hT, Keep.refl _ _⟩
      · rw [if_neg h7]
        exact (take_ok w Av A c l hT hs i s who ep now len hi h2 h3 h4 h6 (by omega)).mono fun e w' ⟨A', c', he, hT', hk⟩ => ⟨A', c', he, hT'.wide (fun i _ h => hAv i h), hk⟩
    · rw [if_neg h6]
      exact (take_stale w Av A c l hT hs i s who ep now len hi h2 h3 h4 h6).mono fun e w' ⟨he, hw⟩ => by subst hw; exact ⟨A, c, he, hT, Keep.refl _ _⟩
  · rw [if_neg hb]
    exact (take_bad w A c l hs thing who ep now len (by simpa using hb)).mono fun e w' ⟨he, hw⟩ => by subst hw; exact ⟨A, c, he, hT, Keep.refl _ _⟩
theorem hold_any : Calls Try.prog 51 #[.slice A l.length c, .int .i64 thing, .int .i64 who, .int .i64 ep, .int .i64 now, .int .i64 len] w fun e w' =>
      ∃ A' c', e = .returned (.tuple #[.slice A' (renR l thing who ep now len).1.length c', .int .i64 (renR l thing who ep now len).2]) ∧
        Th w' Av A' (renR l thing who ep now len).1 ∧ Same w w' := by
  unfold renR
  by_cases hb : good l.length thing who now len = true
  · rw [if_pos hb]
    simp only [good, Bool.and_eq_true, decide_eq_true_eq] at hb
    obtain ⟨⟨⟨⟨h0, h1⟩, h2⟩, h3⟩, h4⟩ := hb
    obtain ⟨i, rfl⟩ := Int.eq_ofNat_of_zero_le h0
    obtain ⟨s, hi⟩ := get_some (l := l) (k := i) (by omega)
    simp only [Int.toNat_natCast, hi]
    by_cases h6 : s.e = ep
    · rw [if_pos h6]
      by_cases h7 : heldE s who now = 0
      · rw [if_pos h7]
        exact (hold_ok w Av A c l hT hs i s who ep now len hi h2 h3 h4 h6 h7).mono fun e w' ⟨A', c', he, hT', hk⟩ => ⟨A', c', he, hT'.wide (fun i _ h => hAv i h), hk⟩
      · rw [if_neg h7]
        exact (hold_not w Av A c l hT hs i s who ep now len hi h2 h3 h4 h6 h7).mono fun e w' ⟨he, hk⟩ => ⟨A, c, he, hT.same hk, hk⟩
    · rw [if_neg h6]
      exact (hold_stale w Av A c l hT hs i s who ep now len hi h2 h3 h4 h6).mono fun e w' ⟨he, hw⟩ => by subst hw; exact ⟨A, c, he, hT, Keep.refl _ _⟩
  · rw [if_neg hb]
    exact (hold_bad w A c l hs thing who ep now len (by simpa using hb)).mono fun e w' ⟨he, hw⟩ => by subst hw; exact ⟨A, c, he, hT, Keep.refl _ _⟩
theorem give_any : Calls Try.prog 52 #[.slice A l.length c, .int .i64 thing, .int .i64 who, .int .i64 ep, .int .i64 now] w fun e w' =>
      ∃ A' c', e = .returned (.tuple #[.slice A' (relR l thing who ep now).1.length c', .int .i64 (relR l thing who ep now).2]) ∧
        Th w' Av A' (relR l thing who ep now).1 ∧ Same w w' := by
  unfold relR
  by_cases hb : (decide (0 ≤ thing) && decide (thing < l.length) && vH who && vN now) = true
  · rw [if_pos hb]
    simp only [Bool.and_eq_true, decide_eq_true_eq] at hb
    obtain ⟨⟨⟨h0, h1⟩, h2⟩, h4⟩ := hb
    obtain ⟨i, rfl⟩ := Int.eq_ofNat_of_zero_le h0
    obtain ⟨s, hi⟩ := get_some (l := l) (k := i) (by omega)
    simp only [Int.toNat_natCast, hi]
    by_cases h6 : s.e = ep
    · rw [if_pos h6]
      by_cases h7 : heldE s who now = 0
      · rw [if_pos h7]
        exact (give_ok w Av A c l hT hs i s who ep now hi h2 h4 h6 h7).mono fun e w' ⟨A', c', he, hT', hk⟩ => ⟨A', c', he, hT'.wide (fun i _ h => hAv i h), hk⟩
      · rw [if_neg h7]
        exact (give_not w Av A c l hT hs i s who ep now hi h2 h4 h6 h7).mono fun e w' ⟨he, hk⟩ => ⟨A, c, he, hT.same hk, hk⟩
    · rw [if_neg h6]
      exact (give_stale w Av A c l hT hs i s who ep now hi h2 h4 h6).mono fun e w' ⟨he, hw⟩ => by subst hw; exact ⟨A, c, he, hT, Keep.refl _ _⟩
  · rw [if_neg hb]
    exact (give_bad w A c l hs thing who ep now (by simpa [good, vL] using hb)).mono fun e w' ⟨he, hw⟩ => by subst hw; exact ⟨A, c, he, hT, Keep.refl _ _⟩
end
end Go.Proofs.Ytmkcphhgimlkgaa

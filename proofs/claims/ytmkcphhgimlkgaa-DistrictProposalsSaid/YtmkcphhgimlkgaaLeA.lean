import Derived.Test.YtmkcphhgimlkgaaGen
namespace Go.Proofs.Ytmkcphhgimlkgaa
open Go.RowKit

/-! ## Leases: the plain state -/
structure St where
  h : Int
  e : Int
  u : Int
  r : Bool
def St.cells (s : St) : List Value := [.int .i64 s.h, .int .i64 s.e, .int .i64 s.u, .bool s.r]
def stFlat (l : List St) : List Value := l.flatMap St.cells

def badArg (n : Nat) (thing who now len : Int) : Bool :=
  decide (thing < 0) || decide ((n : Int) ≤ thing) || decide (who < 0) || decide (63 < who) || decide (len < 1) || decide (1048576 < len) || decide (now < 0) || decide (1099511627776 < now)

structure IsTable (w : World) (tb sb : Nat) (l : List St) : Prop where
  top : Blk w tb 102 #[.slice (some ⟨sb, 0, none⟩) l.length l.length]
  row : Blk w sb 104 (stFlat l).toArray
  small : l.length ≤ 64

/-- what the holder alone may do -/
def heldE (s : St) (who now : Int) : Int := if who = s.h then (if s.r = true then 8 else if s.u < now then 8 else 0) else 14

section
variable {w w' : World} {tb sb : Nat} {l : List St}
theorem stFlat_get (l : List St) (i j : Nat) (hj : j < 4) : (stFlat l)[i * 4 + j]? = (l[i]?).bind (fun s => s.cells[j]?) := flat_get St.cells 4 (fun _ => rfl) l i j hj
theorem IsTable.c (h : IsTable w tb sb l) (i : Nat) (hi : i < l.length) :
    w.cell? ⟨sb, i * 4, none⟩ = some (.int .i64 l[i].h) ∧ w.cell? ⟨sb, i * 4 + 1, none⟩ = some (.int .i64 l[i].e) ∧ w.cell? ⟨sb, i * 4 + 2, none⟩ = some (.int .i64 l[i].u) ∧ w.cell? ⟨sb, i * 4 + 3, none⟩ = some (.bool l[i].r) := by
  have g := fun j (hj : j < 4) => (h.row.at_ (i * 4 + j)).trans ((List.getElem?_toArray ..).trans (stFlat_get l i j hj))
  refine ⟨?_, ?_, ?_, ?_⟩
  · have := g 0 (by omega); simpa [hi, St.cells] using this
  · have := g 1 (by omega); simpa [hi, St.cells] using this
  · have := g 2 (by omega); simpa [hi, St.cells] using this
  · have := g 3 (by omega); simpa [hi, St.cells] using this
theorem IsTable.at_ (h : IsTable w tb sb l) (i : Nat) (hi : i < l.length) : ∃ s, l[i]? = some s ∧
    w.cell? ⟨sb, i * 4, none⟩ = some (.int .i64 s.h) ∧ w.cell? ⟨sb, i * 4 + 1, none⟩ = some (.int .i64 s.e) ∧ w.cell? ⟨sb, i * 4 + 2, none⟩ = some (.int .i64 s.u) ∧ w.cell? ⟨sb, i * 4 + 3, none⟩ = some (.bool s.r) :=
  ⟨l[i], List.getElem?_eq_getElem hi, h.c i hi⟩
theorem IsTable.keep {S : Nat → Prop} (h : IsTable w tb sb l) (hk : Keep S w w') (h1 : ¬ S tb) (h2 : ¬ S sb) : IsTable w' tb sb l :=
  ⟨h.top.keep hk h1, h.row.keep hk h2, h.small⟩
theorem IsTable.sl (h : IsTable w tb sb l) : w.cell? ⟨tb, 0, none⟩ = some (.slice (some ⟨sb, 0, none⟩) l.length l.length) := h.top.at_ 0
end


def vH (who : Int) : Bool := decide (0 ≤ who) && decide (who ≤ 63)
def vL (n : Int) : Bool := decide (1 ≤ n) && decide (n ≤ 1048576)
def vN (n : Int) : Bool := decide (0 ≤ n) && decide (n ≤ 1099511627776)
theorem vH_any (x : Int) (w : World) : Calls Try.prog 69 #[.int .i64 x] w fun e w' => e = .returned (.bool (vH x)) ∧ w = w' := by
  by_cases h : 0 ≤ x
  all_goals
    have hd : vH x = (decide (0 ≤ x) && decide (x ≤ 63)) := rfl
    rw [hd]
    go_enter Try.func69, Try.ntmps69
    go_wp2
    go_ret
    first | (simp [h]; done) | (simp; omega)
theorem vL_any (x : Int) (w : World) : Calls Try.prog 68 #[.int .i64 x] w fun e w' => e = .returned (.bool (vL x)) ∧ w = w' := by
  by_cases h : 1 ≤ x
  all_goals
    have hd : vL x = (decide (1 ≤ x) && decide (x ≤ 1048576)) := rfl
    rw [hd]
    go_enter Try.func68, Try.ntmps68
    go_wp2
    go_ret
    first | (simp [h]; done) | (simp; omega)
set_option maxHeartbeats 1000000 in
theorem find_bad (w : World) (tb sb : Nat) (l : List St) (hT : IsTable w tb sb l) (thing who ep now len : Int) (hb : (decide (0 ≤ thing) && decide (thing < l.length) && vH who && vL len && vN now) = false) :
    Calls Try.prog 56 #[.pointer (some ⟨tb, 0, none⟩), .int .i64 thing, .int .i64 who, .int .i64 ep, .int .i64 now, .int .i64 len] w fun e w' =>
      e = .returned (.tuple #[.pointer none, .int .i64 1]) ∧ w = w' := by
  have h0 := hT.sl
  have hs := hT.small
  generalize l.length = n at *
  have hc : thing < 0 ∨ (0 ≤ thing ∧ (n : Int) ≤ thing) ∨ (0 ≤ thing ∧ thing < n ∧ vH who = false) ∨ (0 ≤ thing ∧ thing < n ∧ vH who = true ∧ vL len = false) ∨ 
     (0 ≤ thing ∧ thing < n ∧ vH who = true ∧ vL len = true ∧ now < 0) ∨ (0 ≤ thing ∧ thing < n ∧ vH who = true ∧ vL len = true ∧ 0 ≤ now ∧ 1099511627776 < now) := by
    cases h1 : vH who <;> cases h2 : vL len <;> simp [h1, h2, vN] at hb ⊢ <;> omega
  clear hb hT
  rcases hc with h | ⟨h1, h⟩ | ⟨h1, h2, h⟩ | ⟨h1, h2, h3, h⟩ | ⟨h1, h2, h3, h5, h⟩ | ⟨h1, h2, h3, h5, h6, h⟩
  all_goals
    go_enter Try.func56, Try.ntmps56
    go_wp2_with (first | (go_at_call 69; refine (vH_any _ _).mono ?_; rintro e w' ⟨rfl, rfl⟩) | (go_at_call 68; refine (vL_any _ _).mono ?_; rintro e w' ⟨rfl, rfl⟩))
    go_ret2
    exact ⟨rfl, rfl⟩

set_option maxHeartbeats 1000000 in
theorem find_good (w : World) (tb sb : Nat) (l : List St) (hT : IsTable w tb sb l) (i : Nat) (who ep now len : Int) (hi : i < l.length) (h3 : vH who = true) (h4 : vL len = true) (h5 : vN now = true) :
    Calls Try.prog 56 #[.pointer (some ⟨tb, 0, none⟩), .int .i64 i, .int .i64 who, .int .i64 ep, .int .i64 now, .int .i64 len] w fun e w' =>
      e = .returned (.tuple #[if l[i].e = ep then .pointer (some ⟨sb, i * 4, none⟩) else .pointer none, .int .i64 (if l[i].e = ep then 0 else 9)]) ∧ w = w' := by
  have h0 := hT.sl
  have hs := hT.small
  have hc := (hT.c i hi).2.1
  simp [vN] at h5
  obtain ⟨h5, h6⟩ := h5
  generalize l[i].e = e at *
  generalize l.length = n at *
  clear hT
  by_cases he : e = ep
  · subst he
    simp
    go_enter Try.func56, Try.ntmps56
    go_wp2_with (first | (go_at_call 69; refine (vH_any _ _).mono ?_; rintro e w' ⟨rfl, rfl⟩) | (go_at_call 68; refine (vL_any _ _).mono ?_; rintro e w' ⟨rfl, rfl⟩))
    go_ret2
    exact ⟨rfl, rfl⟩
  · simp [he]
    have he' : (ep == e) = false := by simp; omega
    go_enter Try.func56, Try.ntmps56
    go_wp2_with (first | (go_at_call 69; refine (vH_any _ _).mono ?_; rintro e w' ⟨rfl, rfl⟩) | (go_at_call 68; refine (vL_any _ _).mono ?_; rintro e w' ⟨rfl, rfl⟩))
    go_ret2
    exact ⟨rfl, rfl⟩

set_option maxHeartbeats 1000000 in
theorem held_any (w : World) (sb i : Nat) (s : St) (who now : Int)
    (c0 : w.cell? ⟨sb, i * 4, none⟩ = some (.int .i64 s.h)) (c2 : w.cell? ⟨sb, i * 4 + 2, none⟩ = some (.int .i64 s.u)) (c3 : w.cell? ⟨sb, i * 4 + 3, none⟩ = some (.bool s.r)) :
    Calls Try.prog 57 #[.pointer (some ⟨sb, i * 4, none⟩), .int .i64 who, .int .i64 now] w fun e w' => e = .returned (.int .i64 (heldE s who now)) ∧ w = w' := by
  obtain ⟨h, ee, u, r⟩ := s
  simp only at c0 c2 c3
  by_cases h1 : who = h
  · subst h1
    cases r
    · by_cases h2 : u < now
      · rw [show heldE ⟨who, ee, u, false⟩ who now = 8 by simp [heldE, h2]]
        go_enter Try.func57, Try.ntmps57
        go_wp2
        go_ret
        exact ⟨rfl, rfl⟩
      · rw [show heldE ⟨who, ee, u, false⟩ who now = 0 by simp [heldE, h2]]
        go_enter Try.func57, Try.ntmps57
        go_wp2
        go_ret
        exact ⟨rfl, rfl⟩
    · rw [show heldE ⟨who, ee, u, true⟩ who now = 8 by simp [heldE]]
      go_enter Try.func57, Try.ntmps57
      go_wp2
      go_ret
      exact ⟨rfl, rfl⟩
  · have h1' : (who == h) = false := by simp; omega
    rw [show heldE ⟨h, ee, u, r⟩ who now = 14 by simp [heldE, h1]]
    go_enter Try.func57, Try.ntmps57
    go_wp2
    go_ret
    exact ⟨rfl, rfl⟩

theorem IsTable.put {w : World} {tb sb : Nat} {l : List St} (h : IsTable w tb sb l) (i j : Nat) (v : Value) (s' : St) (hi : i < l.length) (hj : j < 4) (hs : s'.cells = l[i].cells.set j v) :
    IsTable (w.setCell ⟨sb, i * 4 + j, none⟩ v) tb sb (l.set i s') := by
  have hne : tb ≠ sb := by
    rintro rfl
    have h1 := h.top
    have h2 := h.row
    rw [Blk] at h1 h2
    rw [h1] at h2
    injection h2 with h2
    injection h2 with _ h2
    exact absurd h2 (by decide)
  refine ⟨?_, ?_, by simpa using h.small⟩
  · rw [List.length_set]; exact h.top.far (p := ⟨sb, i * 4 + j, none⟩) hne v
  · have := h.row.put (i * 4 + j) v
    rw [List.setIfInBounds_toArray] at this
    rwa [stFlat, flat_set St.cells 4 (fun _ => rfl) l i j v s' hi hj hs] at this
theorem IsTable.put4 {w : World} {tb sb : Nat} {l : List St} (h : IsTable w tb sb l) (i : Nat) (s : St) (hi : i < l.length) :
    IsTable ((((w.setCell ⟨sb, i * 4, none⟩ (.int .i64 s.h)).setCell ⟨sb, i * 4 + 1, none⟩ (.int .i64 s.e)).setCell ⟨sb, i * 4 + 2, none⟩ (.int .i64 s.u)).setCell ⟨sb, i * 4 + 3, none⟩ (.bool s.r)) tb sb (l.set i s) := by
  have h1 := h.put i 0 (.int .i64 s.h) ⟨s.h, l[i].e, l[i].u, l[i].r⟩ hi (by omega) rfl
  have h2 := h1.put i 1 (.int .i64 s.e) ⟨s.h, s.e, l[i].u, l[i].r⟩ (by simpa using hi) (by omega) (by simp [St.cells])
  have h3 := h2.put i 2 (.int .i64 s.u) ⟨s.h, s.e, s.u, l[i].r⟩ (by simpa using hi) (by omega) (by simp [St.cells])
  have h4 := h3.put i 3 (.bool s.r) s (by simpa using hi) (by omega) (by simp [St.cells])
  simpa using h4

set_option maxHeartbeats 1000000 in
theorem acq_ok (w : World) (tb sb : Nat) (l : List St) (hT : IsTable w tb sb l) (i : Nat) (who ep now len : Int) (hi : i < l.length) (h3 : vH who = true) (h4 : vL len = true) (h5 : vN now = true) (h6 : l[i].e = ep) (h7 : l[i].u < now) :
    Calls Try.prog 40 #[.pointer (some ⟨tb, 0, none⟩), .int .i64 i, .int .i64 who, .int .i64 ep, .int .i64 now, .int .i64 len] w fun e w' =>
      e = .returned (.tuple #[.int .i64 (wrap64 (ep + 1)), .int .i64 0]) ∧ IsTable w' tb sb (l.set i ⟨who, wrap64 (ep + 1), now + len, false⟩) ∧ Keep (· = sb) w w' := by
  have hF := hT.row.free
  obtain ⟨c0, c1, c2, c3⟩ := hT.c i hi
  have hn : 0 ≤ now ∧ now ≤ 1099511627776 := by simpa [vN] using h5
  have hl : 1 ≤ len ∧ len ≤ 1048576 := by simpa [vL] using h4
  obtain ⟨n1, n2⟩ := hn
  obtain ⟨l1, l2⟩ := hl
  have f0 := hF (i*4)
  have f1 := hF (i*4+1)
  have f2 := hF (i*4+2)
  have f3 := hF (i*4+3)
  clear hF
  go_enter Try.func40, Try.ntmps40
  go_wp2_with (go_at_call 56; refine (find_good w tb sb l hT i who ep now len hi h3 h4 h5).mono ?_; rintro e w' ⟨rfl, rfl⟩; rw [if_pos h6, if_pos h6])
  go_ret2
  exact ⟨rfl, hT.put4 i ⟨who, wrap64 (ep + 1), now + len, false⟩ hi, ((((Keep.refl _ _).put _ _).put _ _).put _ _).put _ _⟩

set_option maxHeartbeats 1000000 in
theorem acq_busy (w : World) (tb sb : Nat) (l : List St) (hT : IsTable w tb sb l) (i : Nat) (who ep now len : Int) (hi : i < l.length) (h3 : vH who = true) (h4 : vL len = true) (h5 : vN now = true) (h6 : l[i].e = ep) (h7 : now ≤ l[i].u) :
    Calls Try.prog 40 #[.pointer (some ⟨tb, 0, none⟩), .int .i64 i, .int .i64 who, .int .i64 ep, .int .i64 now, .int .i64 len] w fun e w' =>
      e = .returned (.tuple #[.int .i64 0, .int .i64 10]) ∧ w = w' := by
  obtain ⟨c0, c1, c2, c3⟩ := hT.c i hi
  go_enter Try.func40, Try.ntmps40
  go_wp2_with (go_at_call 56; refine (find_good w tb sb l hT i who ep now len hi h3 h4 h5).mono ?_; rintro e w' ⟨rfl, rfl⟩; rw [if_pos h6, if_pos h6])
  go_ret2
  exact ⟨rfl, rfl⟩

set_option maxHeartbeats 1000000 in
theorem acq_stale (w : World) (tb sb : Nat) (l : List St) (hT : IsTable w tb sb l) (i : Nat) (who ep now len : Int) (hi : i < l.length) (h3 : vH who = true) (h4 : vL len = true) (h5 : vN now = true) (h6 : ¬ l[i].e = ep) :
    Calls Try.prog 40 #[.pointer (some ⟨tb, 0, none⟩), .int .i64 i, .int .i64 who, .int .i64 ep, .int .i64 now, .int .i64 len] w fun e w' =>
      e = .returned (.tuple #[.int .i64 0, .int .i64 9]) ∧ w = w' := by
  go_enter Try.func40, Try.ntmps40
  go_wp2_with (go_at_call 56; refine (find_good w tb sb l hT i who ep now len hi h3 h4 h5).mono ?_; rintro e w' ⟨rfl, rfl⟩; rw [if_neg h6, if_neg h6])
  go_ret2
  exact ⟨rfl, rfl⟩

set_option maxHeartbeats 1000000 in
theorem acq_bad (w : World) (tb sb : Nat) (l : List St) (hT : IsTable w tb sb l) (thing who ep now len : Int) (hb : (decide (0 ≤ thing) && decide (thing < l.length) && vH who && vL len && vN now) = false) :
    Calls Try.prog 40 #[.pointer (some ⟨tb, 0, none⟩), .int .i64 thing, .int .i64 who, .int .i64 ep, .int .i64 now, .int .i64 len] w fun e w' =>
      e = .returned (.tuple #[.int .i64 0, .int .i64 1]) ∧ w = w' := by
  have hF := find_bad w tb sb l hT thing who ep now len hb
  have HF : Hid (Calls Try.prog 56 #[.pointer (some ⟨tb, 0, none⟩), .int .i64 thing, .int .i64 who, .int .i64 ep, .int .i64 now, .int .i64 len] w fun e w' => e = .returned (.tuple #[.pointer none, .int .i64 1]) ∧ w = w') := hF
  clear hF hb hT
  go_enter Try.func40, Try.ntmps40
  go_wp2_with (go_at_call 56; refine (Hid.out HF).mono ?_; rintro e w' ⟨rfl, rfl⟩)
  go_ret2
  exact ⟨rfl, rfl⟩

/-- what Acquire does: the state behind it, the epoch, the error -/
def acqR (l : List St) (thing who ep now len : Int) : List St × Int × Int :=
  if (decide (0 ≤ thing) && decide (thing < l.length) && vH who && vL len && vN now) = true then
    match l[thing.toNat]? with
    | some s => if s.e = ep then (if now ≤ s.u then (l, 0, 10) else (l.set thing.toNat ⟨who, wrap64 (ep + 1), now + len, false⟩, wrap64 (ep + 1), 0)) else (l, 0, 9)
    | none => (l, 0, 1)
  else (l, 0, 1)

theorem acq_any (w : World) (tb sb : Nat) (l : List St) (hT : IsTable w tb sb l) (thing who ep now len : Int) :
    Calls Try.prog 40 #[.pointer (some ⟨tb, 0, none⟩), .int .i64 thing, .int .i64 who, .int .i64 ep, .int .i64 now, .int .i64 len] w fun e w' =>
      e = .returned (.tuple #[.int .i64 (acqR l thing who ep now len).2.1, .int .i64 (acqR l thing who ep now len).2.2]) ∧ IsTable w' tb sb (acqR l thing who ep now len).1 ∧ Keep (· = sb) w w' := by
  unfold acqR
  by_cases hb : (decide (0 ≤ thing) && decide (thing < l.length) && vH who && vL len && vN now) = true
  · rw [if_pos hb]
    simp only [Bool.and_eq_true, decide_eq_true_eq] at hb
    obtain ⟨⟨⟨⟨h0, h1⟩, h2⟩, h3⟩, h4⟩ := hb
    obtain ⟨i, rfl⟩ := Int.eq_ofNat_of_zero_le h0
    have hi : i < l.length := by omega
    simp only [Int.toNat_natCast, List.getElem?_eq_getElem hi]
    by_cases h6 : l[i].e = ep
    · rw [if_pos h6]
      by_cases h7 : now ≤ l[i].u
      · rw [if_pos h7]
        exact (acq_busy w tb sb l hT i who ep now len hi h2 h3 h4 h6 h7).mono fun e w' ⟨he, hw⟩ => by subst hw; exact ⟨he, hT, Keep.refl _ _⟩
      · rw [if_neg h7]
        exact acq_ok w tb sb l hT i who ep now len hi h2 h3 h4 h6 (by omega)
    · rw [if_neg h6]
      exact (acq_stale w tb sb l hT i who ep now len hi h2 h3 h4 h6).mono fun e w' ⟨he, hw⟩ => by subst hw; exact ⟨he, hT, Keep.refl _ _⟩
  · rw [if_neg hb]
    exact (acq_bad w tb sb l hT thing who ep now len (by simpa using hb)).mono fun e w' ⟨he, hw⟩ => by subst hw; exact ⟨he, hT, Keep.refl _ _⟩

/-! ## Renew, Release -/
set_option maxHeartbeats 1000000 in
theorem ren_ok (w : World) (tb sb : Nat) (l : List St) (hT : IsTable w tb sb l) (i : Nat) (who ep now len : Int) (hi : i < l.length) (h3 : vH who = true) (h4 : vL len = true) (h5 : vN now = true) (h6 : l[i].e = ep) (h7 : heldE l[i] who now = 0) :
    Calls Try.prog 41 #[.pointer (some ⟨tb, 0, none⟩), .int .i64 i, .int .i64 who, .int .i64 ep, .int .i64 now, .int .i64 len] w fun e w' =>
      e = .returned (.int .i64 0) ∧ IsTable w' tb sb (l.set i ⟨l[i].h, l[i].e, max l[i].u (now + len), l[i].r⟩) ∧ Keep (· = sb) w w' := by
  have f2 := hT.row.free (i*4+2)
  obtain ⟨c0, c1, c2, c3⟩ := hT.c i hi
  have hn : 0 ≤ now ∧ now ≤ 1099511627776 := by simpa [vN] using h5
  have hl : 1 ≤ len ∧ len ≤ 1048576 := by simpa [vL] using h4
  obtain ⟨n1, n2⟩ := hn
  obtain ⟨l1, l2⟩ := hl
  have H7 : Hid (heldE l[i] who now = 0) := h7
  clear h7
  go_enter Try.func41, Try.ntmps41
  go_wp2_with (first | (go_at_call 56; refine (find_good w tb sb l hT i who ep now len hi h3 h4 h5).mono ?_; rintro e w' ⟨rfl, rfl⟩; rw [if_pos h6, if_pos h6]) | (go_at_call 57; refine (held_any w sb i l[i] who now c0 c2 c3).mono ?_; rintro e w' ⟨rfl, rfl⟩; rw [Hid.out H7]))
  · go_ret
    have hm : max l[i].u (now + len) = now + len := by omega
    have := hT.put i 2 (.int .i64 (now + len)) ⟨l[i].h, l[i].e, max l[i].u (now + len), l[i].r⟩ hi (by omega) (by rw [hm]; rfl)
    exact ⟨rfl, by rw [← h6]; exact this, (Keep.refl _ _).put _ _⟩
  · go_ret
    have hm : max l[i].u (now + len) = l[i].u := by omega
    have := hT.put i 2 (.int .i64 l[i].u) ⟨l[i].h, l[i].e, max l[i].u (now + len), l[i].r⟩ hi (by omega) (by rw [hm]; rfl)
    exact ⟨rfl, by rw [← h6]; exact this, (Keep.refl _ _).put _ _⟩

set_option maxHeartbeats 1000000 in
theorem ren_not (w : World) (tb sb : Nat) (l : List St) (hT : IsTable w tb sb l) (i : Nat) (who ep now len : Int) (hi : i < l.length) (h3 : vH who = true) (h4 : vL len = true) (h5 : vN now = true) (h6 : l[i].e = ep) (h7 : ¬ heldE l[i] who now = 0) :
    Calls Try.prog 41 #[.pointer (some ⟨tb, 0, none⟩), .int .i64 i, .int .i64 who, .int .i64 ep, .int .i64 now, .int .i64 len] w fun e w' =>
      e = .returned (.int .i64 (heldE l[i] who now)) ∧ w = w' := by
  obtain ⟨c0, c1, c2, c3⟩ := hT.c i hi
  have hh := held_any w sb i l[i] who now c0 c2 c3
  generalize heldE l[i] who now = E at *
  have H := hid hh
  have h7' : (E == 0) = false := by simp; omega
  clear hh
  go_enter Try.func41, Try.ntmps41
  go_wp2_with (first | (go_at_call 56; refine (find_good w tb sb l hT i who ep now len hi h3 h4 h5).mono ?_; rintro e w' ⟨rfl, rfl⟩; rw [if_pos h6, if_pos h6]) | (go_at_call 57; refine (Hid.out H).mono ?_; rintro e w' ⟨rfl, rfl⟩))
  go_ret
  exact ⟨rfl, rfl⟩

set_option maxHeartbeats 1000000 in
theorem ren_stale (w : World) (tb sb : Nat) (l : List St) (hT : IsTable w tb sb l) (i : Nat) (who ep now len : Int) (hi : i < l.length) (h3 : vH who = true) (h4 : vL len = true) (h5 : vN now = true) (h6 : ¬ l[i].e = ep) :
    Calls Try.prog 41 #[.pointer (some ⟨tb, 0, none⟩), .int .i64 i, .int .i64 who, .int .i64 ep, .int .i64 now, .int .i64 len] w fun e w' =>
      e = .returned (.int .i64 9) ∧ w = w' := by
  go_enter Try.func41, Try.ntmps41
  go_wp2_with (go_at_call 56; refine (find_good w tb sb l hT i who ep now len hi h3 h4 h5).mono ?_; rintro e w' ⟨rfl, rfl⟩; rw [if_neg h6, if_neg h6])
  go_ret
  exact ⟨rfl, rfl⟩

set_option maxHeartbeats 1000000 in
theorem ren_bad (w : World) (tb sb : Nat) (l : List St) (hT : IsTable w tb sb l) (thing who ep now len : Int) (hb : (decide (0 ≤ thing) && decide (thing < l.length) && vH who && vL len && vN now) = false) :
    Calls Try.prog 41 #[.pointer (some ⟨tb, 0, none⟩), .int .i64 thing, .int .i64 who, .int .i64 ep, .int .i64 now, .int .i64 len] w fun e w' =>
      e = .returned (.int .i64 1) ∧ w = w' := by
  have HF := hid (find_bad w tb sb l hT thing who ep now len hb)
  clear hb hT
  go_enter Try.func41, Try.ntmps41
  go_wp2_with (go_at_call 56; refine (Hid.out HF).mono ?_; rintro e w' ⟨rfl, rfl⟩)
  go_ret
  exact ⟨rfl, rfl⟩

def renR (l : List St) (thing who ep now len : Int) : List St × Int :=
  if (decide (0 ≤ thing) && decide (thing < l.length) && vH who && vL len && vN now) = true then
    match l[thing.toNat]? with
    | some s => if s.e = ep then (if heldE s who now = 0 then (l.set thing.toNat ⟨s.h, s.e, max s.u (now + len), s.r⟩, 0) else (l, heldE s who now)) else (l, 9)
    | none => (l, 1)
  else (l, 1)

theorem ren_any (w : World) (tb sb : Nat) (l : List St) (hT : IsTable w tb sb l) (thing who ep now len : Int) :
    Calls Try.prog 41 #[.pointer (some ⟨tb, 0, none⟩), .int .i64 thing, .int .i64 who, .int .i64 ep, .int .i64 now, .int .i64 len] w fun e w' =>
      e = .returned (.int .i64 (renR l thing who ep now len).2) ∧ IsTable w' tb sb (renR l thing who ep now len).1 ∧ Keep (· = sb) w w' := by
  unfold renR
  by_cases hb : (decide (0 ≤ thing) && decide (thing < l.length) && vH who && vL len && vN now) = true
  · rw [if_pos hb]
    simp only [Bool.and_eq_true, decide_eq_true_eq] at hb
    obtain ⟨⟨⟨⟨h0, h1⟩, h2⟩, h3⟩, h4⟩ := hb
    obtain ⟨i, rfl⟩ := Int.eq_ofNat_of_zero_le h0
    have hi : i < l.length := by omega
    simp only [Int.toNat_natCast, List.getElem?_eq_getElem hi]
    by_cases h6 : l[i].e = ep
    · rw [if_pos h6]
      by_cases h7 : heldE l[i] who now = 0
      · rw [if_pos h7]
        exact ren_ok w tb sb l hT i who ep now len hi h2 h3 h4 h6 h7
      · rw [if_neg h7]
        exact (ren_not w tb sb l hT i who ep now len hi h2 h3 h4 h6 h7).mono fun e w' ⟨he, hw⟩ => by subst hw; exact ⟨he, hT, Keep.refl _ _⟩
    · rw [if_neg h6]
      exact (ren_stale w tb sb l hT i who ep now len hi h2 h3 h4 h6).mono fun e w' ⟨he, hw⟩ => by subst hw; exact ⟨he, hT, Keep.refl _ _⟩
  · rw [if_neg hb]
    exact (ren_bad w tb sb l hT thing who ep now len (by simpa using hb)).mono fun e w' ⟨he, hw⟩ => by subst hw; exact ⟨he, hT, Keep.refl _ _⟩

set_option maxHeartbeats 1000000 in
theorem rel_ok (w : World) (tb sb : Nat) (l : List St) (hT : IsTable w tb sb l) (i : Nat) (who ep now : Int) (hi : i < l.length) (h3 : vH who = true) (h5 : vN now = true) (h6 : l[i].e = ep) (h7 : heldE l[i] who now = 0) :
    Calls Try.prog 42 #[.pointer (some ⟨tb, 0, none⟩), .int .i64 i, .int .i64 who, .int .i64 ep, .int .i64 now] w fun e w' =>
      e = .returned (.int .i64 0) ∧ IsTable w' tb sb (l.set i ⟨l[i].h, l[i].e, l[i].u, true⟩) ∧ Keep (· = sb) w w' := by
  have f3 := hT.row.free (i*4+3)
  obtain ⟨c0, c1, c2, c3⟩ := hT.c i hi
  have H7 := hid h7
  have H6 := hid h6
  clear h7
  go_enter Try.func42, Try.ntmps42
  go_wp2_with (first | (go_at_call 56; refine (find_good w tb sb l hT i who ep now 1 hi h3 rfl h5).mono ?_; rintro e w' ⟨rfl, rfl⟩; rw [if_pos h6, if_pos h6]) | (go_at_call 57; refine (held_any w sb i l[i] who now c0 c2 c3).mono ?_; rintro e w' ⟨rfl, rfl⟩; rw [Hid.out H7]))
  go_ret
  have := hT.put i 3 (.bool true) ⟨l[i].h, l[i].e, l[i].u, true⟩ hi (by omega) rfl
  exact ⟨rfl, this, (Keep.refl _ _).put _ _⟩

set_option maxHeartbeats 1000000 in
theorem rel_not (w : World) (tb sb : Nat) (l : List St) (hT : IsTable w tb sb l) (i : Nat) (who ep now : Int) (hi : i < l.length) (h3 : vH who = true) (h5 : vN now = true) (h6 : l[i].e = ep) (h7 : ¬ heldE l[i] who now = 0) :
    Calls Try.prog 42 #[.pointer (some ⟨tb, 0, none⟩), .int .i64 i, .int .i64 who, .int .i64 ep, .int .i64 now] w fun e w' =>
      e = .returned (.int .i64 (heldE l[i] who now)) ∧ w = w' := by
  obtain ⟨c0, c1, c2, c3⟩ := hT.c i hi
  have hh := held_any w sb i l[i] who now c0 c2 c3
  generalize heldE l[i] who now = E at *
  have H := hid hh
  have h7' : (E == 0) = false := by simp; omega
  clear hh
  go_enter Try.func42, Try.ntmps42
  go_wp2_with (first | (go_at_call 56; refine (find_good w tb sb l hT i who ep now 1 hi h3 rfl h5).mono ?_; rintro e w' ⟨rfl, rfl⟩; rw [if_pos h6, if_pos h6]) | (go_at_call 57; refine (Hid.out H).mono ?_; rintro e w' ⟨rfl, rfl⟩))
  go_ret
  exact ⟨rfl, rfl⟩

set_option maxHeartbeats 1000000 in
theorem rel_stale (w : World) (tb sb : Nat) (l : List St) (hT : IsTable w tb sb l) (i : Nat) (who ep now : Int) (hi : i < l.length) (h3 : vH who = true) (h5 : vN now = true) (h6 : ¬ l[i].e = ep) :
    Calls Try.prog 42 #[.pointer (some ⟨tb, 0, none⟩), .int .i64 i, .int .i64 who, .int .i64 ep, .int .i64 now] w fun e w' =>
      e = .returned (.int .i64 9) ∧ w = w' := by
  go_enter Try.func42, Try.ntmps42
  go_wp2_with (go_at_call 56; refine (find_good w tb sb l hT i who ep now 1 hi h3 rfl h5).mono ?_; rintro e w' ⟨rfl, rfl⟩; rw [if_neg h6, if_neg h6])
  go_ret
  exact ⟨rfl, rfl⟩

set_option maxHeartbeats 1000000 in
theorem rel_bad (w : World) (tb sb : Nat) (l : List St) (hT : IsTable w tb sb l) (thing who ep now : Int) (hb : (decide (0 ≤ thing) && decide (thing < l.length) && vH who && vN now) = false) :
    Calls Try.prog 42 #[.pointer (some ⟨tb, 0, none⟩), .int .i64 thing, .int .i64 who, .int .i64 ep, .int .i64 now] w fun e w' =>
      e = .returned (.int .i64 1) ∧ w = w' := by
  have HF := hid (find_bad w tb sb l hT thing who ep now 1 (by simpa [vL] using hb))
  clear hb hT
  go_enter Try.func42, Try.ntmps42
  go_wp2_with (go_at_call 56; refine (Hid.out HF).mono ?_; rintro e w' ⟨rfl, rfl⟩)
  go_ret
  exact ⟨rfl, rfl⟩

def relR (l : List St) (thing who ep now : Int) : List St × Int :=
  if (decide (0 ≤ thing) && decide (thing < l.length) && vH who && vN now) = true then
    match l[thing.toNat]? with
    | some s => if s.e = ep then (if heldE s who now = 0 then (l.set thing.toNat ⟨s.h, s.e, s.u, true⟩, 0) else (l, heldE s who now)) else (l, 9)
    | none => (l, 1)
  else (l, 1)

theorem rel_any (w : World) (tb sb : Nat) (l : List St) (hT : IsTable w tb sb l) (thing who ep now : Int) :
    Calls Try.prog 42 #[.pointer (some ⟨tb, 0, none⟩), .int .i64 thing, .int .i64 who, .int .i64 ep, .int .i64 now] w fun e w' =>
      e = .returned (.int .i64 (relR l thing who ep now).2) ∧ IsTable w' tb sb (relR l thing who ep now).1 ∧ Keep (· = sb) w w' := by
  unfold relR
  by_cases hb : (decide (0 ≤ thing) && decide (thing < l.length) && vH who && vN now) = true
  · rw [if_pos hb]
    simp only [Bool.and_eq_true, decide_eq_true_eq] at hb
    obtain ⟨⟨⟨h0, h1⟩, h2⟩, h4⟩ := hb
    obtain ⟨i, rfl⟩ := Int.eq_ofNat_of_zero_le h0
    have hi : i < l.length := by omega
    simp only [Int.toNat_natCast, List.getElem?_eq_getElem hi]
    by_cases h6 : l[i].e = ep
    · rw [if_pos h6]
      by_cases h7 : heldE l[i] who now = 0
      · rw [if_pos h7]
        exact rel_ok w tb sb l hT i who ep now hi h2 h4 h6 h7
      · rw [if_neg h7]
        exact (rel_not w tb sb l hT i who ep now hi h2 h4 h6 h7).mono fun e w' ⟨he, hw⟩ => by subst hw; exact ⟨he, hT, Keep.refl _ _⟩
    · rw [if_neg h6]
      exact (rel_stale w tb sb l hT i who ep now hi h2 h4 h6).mono fun e w' ⟨he, hw⟩ => by subst hw; exact ⟨he, hT, Keep.refl _ _⟩
  · rw [if_neg hb]
    exact (rel_bad w tb sb l hT thing who ep now (by simpa using hb)).mono fun e w' ⟨he, hw⟩ => by subst hw; exact ⟨he, hT, Keep.refl _ _⟩

end Go.Proofs.Ytmkcphhgimlkgaa

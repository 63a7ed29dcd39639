import Derived.Test.YtmkcphhgimlkgaaLeN
import Derived.Test.YtmkcphhgimlkgaaGen2
import Derived.Deep.DeepMust
namespace Go.Proofs.Ytmkcphhgimlkgaa
open Go.RowKit

/-! ## The reference's states -/
/-- the reference writes 1 for a released lease -/
def gv (r : Bool) : Int := if r = true then 1 else 0
def St.th (s : St) : List Value := [.int .i64 s.h, .int .i64 s.e, .int .i64 s.u, .int .i64 (gv s.r)]
def thFlat (l : List St) : List Value := l.flatMap St.th
theorem th4 (s : St) : s.th.length = 4 := rfl
theorem thFlat_len (l : List St) : (thFlat l).length = l.length * 4 := flat_len St.th 4 th4 l
theorem thFlat_get (l : List St) (i j : Nat) (hj : j < 4) : (thFlat l)[i * 4 + j]? = (l[i]?).bind (fun s => s.th[j]?) := flat_get St.th 4 th4 l i j hj
theorem thFlat_one (l : List St) : ∀ u ∈ thFlat l, u.oneCell' = true := by
  intro u hu
  simp only [thFlat, List.mem_flatMap, St.th] at hu
  obtain ⟨s, _, hu⟩ := hu
  simp at hu
  rcases hu with rfl | rfl | rfl | rfl <;> rfl
abbrev Th (w : World) (Av : Nat → Prop) (A : Option Addr) (l : List St) : Prop := Sl w Av 4 A l.length (thFlat l)
theorem Th.at4 {w : World} {Av : Nat → Prop} {A : Option Addr} {l : List St} (h : Th w Av A l) {i : Nat} {s : St} (hi : l[i]? = some s) : ∃ b off, A = some ⟨b, off, none⟩ ∧ b < w.heap.size ∧
    w.cell? ⟨b, off + i * 4, none⟩ = some (.int .i64 s.h) ∧ w.cell? ⟨b, off + i * 4 + 1, none⟩ = some (.int .i64 s.e) ∧ w.cell? ⟨b, off + i * 4 + 2, none⟩ = some (.int .i64 s.u) ∧ w.cell? ⟨b, off + i * 4 + 3, none⟩ = some (.int .i64 (gv s.r)) := by
  have hl := (List.getElem?_eq_some_iff.1 hi).1
  obtain ⟨b, off, rfl, hb, _, hr⟩ := h.at_ (by omega)
  have g := fun j (hj : j < 4) u (hu : s.th[j]? = some u) => hr (i * 4 + j) u (by rw [thFlat_get l i j hj, hi]; exact hu)
  refine ⟨b, off, rfl, hb, ?_, ?_, ?_, ?_⟩
  · exact g 0 (by omega) _ rfl
  · exact g 1 (by omega) _ rfl
  · exact g 2 (by omega) _ rfl
  · exact g 3 (by omega) _ rfl
theorem E27 : Elem Try.prog 34 72 4 32 (.agg #[.int .i64 0, .int .i64 0, .int .i64 0, .int .i64 0]) := ⟨Try.underlying34, by kernel_rfl, rfl, by decide⟩

theorem rH_any (x : Int) (w : World) : Calls Try.prog 76 #[.int .i64 x] w fun e w' => e = .returned (.bool (vH x)) ∧ w = w' := by
  by_cases h : 0 ≤ x
  all_goals
    have hd : vH x = (decide (0 ≤ x) && decide (x ≤ 63)) := rfl
    rw [hd]
    go_enter Try.func76, Try.ntmps76
    go_wp2
    go_ret
    first | (simp [h]; done) | (simp; omega)
theorem rL_any (x : Int) (w : World) : Calls Try.prog 75 #[.int .i64 x] w fun e w' => e = .returned (.bool (vL x)) ∧ w = w' := by
  by_cases h : 1 ≤ x
  all_goals
    have hd : vL x = (decide (1 ≤ x) && decide (x ≤ 1048576)) := rfl
    rw [hd]
    go_enter Try.func75, Try.ntmps75
    go_wp2
    go_ret
    first | (simp [h]; done) | (simp; omega)

set_option maxHeartbeats 1000000 in
theorem wrong_bad (w : World) (Av : Nat → Prop) (A : Option Addr) (c : Nat) (l : List St) (hs : l.length ≤ 64) (thing who ep now len : Int) (hb : (decide (0 ≤ thing) && decide (thing < l.length) && vH who && vL len && vN now) = false) :
    Calls Try.prog 77 #[.slice A l.length c, .int .i64 thing, .int .i64 who, .int .i64 ep, .int .i64 now, .int .i64 len] w fun e w' =>
      e = .returned (.int .i64 1) ∧ w = w' := by
  generalize l.length = n at *
  have hc : thing < 0 ∨ (0 ≤ thing ∧ (n : Int) ≤ thing) ∨ (0 ≤ thing ∧ thing < n ∧ vH who = false) ∨ 
     (0 ≤ thing ∧ thing < n ∧ vH who = true ∧ now < 0) ∨ (0 ≤ thing ∧ thing < n ∧ vH who = true ∧ 0 ≤ now ∧ 1099511627776 < now) ∨ (0 ≤ thing ∧ thing < n ∧ vH who = true ∧ 0 ≤ now ∧ now ≤ 1099511627776 ∧ vL len = false) := by
    cases h1 : vH who <;> cases h2 : vL len <;> simp [h1, h2, vN] at hb ⊢ <;> omega
  clear hb
  rcases hc with h | ⟨h1, h⟩ | ⟨h1, h2, h⟩ | ⟨h1, h2, h3, h⟩ | ⟨h1, h2, h3, h5, h⟩ | ⟨h1, h2, h3, h5, h6, h⟩
  all_goals
    go_enter Try.func77, Try.ntmps77
    go_wp2_with (first | (go_at_call 76; refine (rH_any _ _).mono ?_; rintro e w' ⟨rfl, rfl⟩) | (go_at_call 75; refine (rL_any _ _).mono ?_; rintro e w' ⟨rfl, rfl⟩))
    go_ret
    exact ⟨rfl, rfl⟩

set_option maxHeartbeats 1000000 in
theorem wrong_good (w : World) (Av : Nat → Prop) (A : Option Addr) (c : Nat) (l : List St) (hT : Th w Av A l) (hs : l.length ≤ 64) (i : Nat) (s : St) (who ep now len : Int) (hi : l[i]? = some s) (h3 : vH who = true) (h4 : vL len = true) (h5 : vN now = true) :
    Calls Try.prog 77 #[.slice A l.length c, .int .i64 i, .int .i64 who, .int .i64 ep, .int .i64 now, .int .i64 len] w fun e w' =>
      e = .returned (.int .i64 (if s.e = ep then 0 else 9)) ∧ w = w' := by
  obtain ⟨b, off, rfl, hb, c0, c1, c2, c3⟩ := hT.at4 hi
  have hi' := (List.getElem?_eq_some_iff.1 hi).1
  simp [vN] at h5
  obtain ⟨h5, h6⟩ := h5
  clear hT hi
  generalize l.length = n at *
  generalize s.e = e at *
  by_cases he : e = ep
  · subst he
    simp
    go_enter Try.func77, Try.ntmps77
    go_wp2_with (first | (go_at_call 76; refine (rH_any _ _).mono ?_; rintro e w' ⟨rfl, rfl⟩) | (go_at_call 75; refine (rL_any _ _).mono ?_; rintro e w' ⟨rfl, rfl⟩))
    go_ret
    exact ⟨rfl, rfl⟩
  · simp [he]
    have he' : (e == ep) = false := by simp; omega
    go_enter Try.func77, Try.ntmps77
    go_wp2_with (first | (go_at_call 76; refine (rH_any _ _).mono ?_; rintro e w' ⟨rfl, rfl⟩) | (go_at_call 75; refine (rL_any _ _).mono ?_; rintro e w' ⟨rfl, rfl⟩))
    go_ret
    exact ⟨rfl, rfl⟩

theorem set4 (l : List St) (i : Nat) (s : St) (hi : i < l.length) :
    ((((thFlat l).set (i * 4) (.int .i64 s.h)).set (i * 4 + 1) (.int .i64 s.e)).set (i * 4 + 2) (.int .i64 s.u)).set (i * 4 + 3) (.int .i64 (gv s.r)) = thFlat (l.set i s) := by
  have h1 := flat_set St.th 4 th4 l i 0 (.int .i64 s.h) ⟨s.h, l[i].e, l[i].u, l[i].r⟩ hi (by omega) rfl
  have h2 := flat_set St.th 4 th4 (l.set i ⟨s.h, l[i].e, l[i].u, l[i].r⟩) i 1 (.int .i64 s.e) ⟨s.h, s.e, l[i].u, l[i].r⟩ (by simpa using hi) (by omega) (by simp [St.th])
  have h3 := flat_set St.th 4 th4 ((l.set i ⟨s.h, l[i].e, l[i].u, l[i].r⟩).set i ⟨s.h, s.e, l[i].u, l[i].r⟩) i 2 (.int .i64 s.u) ⟨s.h, s.e, s.u, l[i].r⟩ (by simpa using hi) (by omega) (by simp [St.th])
  have h4 := flat_set St.th 4 th4 (((l.set i ⟨s.h, l[i].e, l[i].u, l[i].r⟩).set i ⟨s.h, s.e, l[i].u, l[i].r⟩).set i ⟨s.h, s.e, s.u, l[i].r⟩) i 3 (.int .i64 (gv s.r)) s (by simpa using hi) (by omega) (by simp [St.th])
  simp only [thFlat]
  rw [Nat.add_zero] at h1
  rw [h1, h2, h3, h4]
  simp

end Go.Proofs.Ytmkcphhgimlkgaa

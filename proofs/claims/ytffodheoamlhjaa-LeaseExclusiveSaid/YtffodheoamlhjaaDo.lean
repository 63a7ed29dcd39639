import Derived.Test.YtffodheoamlhjaaTake
namespace Go.Proofs.Ytffodheoamlhjaa
open Go.RowKit

structure Ac where
  k : Int
  t : Int
  w : Int
  e : Int
  n : Int
  l : Int
def Ac.cells (a : Ac) : List Value := [.int .i64 a.k, .int .i64 a.t, .int .i64 a.w, .int .i64 a.e, .int .i64 a.n, .int .i64 a.l]
/-- one operation on the plain state -/
def doR (l : List St) (a : Ac) : List St :=
  if a.k = 0 then (acqR l a.t a.w a.e a.n a.l).1 else if a.k = 1 then (renR l a.t a.w a.e a.n a.l).1 else if a.k = 2 then (relR l a.t a.w a.e a.n).1 else l

theorem Ac.facts {w1 : World} {g : Nat} {a : Ac} (h : Blk w1 g 47 a.cells.toArray) : w1.cell? ⟨g, 0, none⟩ = some (.int .i64 a.k) ∧ w1.cell? ⟨g, 1, none⟩ = some (.int .i64 a.t) ∧ w1.cell? ⟨g, 2, none⟩ = some (.int .i64 a.w) ∧
    w1.cell? ⟨g, 3, none⟩ = some (.int .i64 a.e) ∧ w1.cell? ⟨g, 4, none⟩ = some (.int .i64 a.n) ∧ w1.cell? ⟨g, 5, none⟩ = some (.int .i64 a.l) := ⟨h.at_ 0, h.at_ 1, h.at_ 2, h.at_ 3, h.at_ 4, h.at_ 5⟩

section
variable (w : World) (tb sb : Nat) (l : List St) (hT : IsTable w tb sb l) (A : Option Addr) (c : Nat) (hH : Th w (fun g => g = sb ∨ g = tb) A l) (a : Ac)
include hT hH

/-- What one operation leaves. -/
def DoPost (w : World) (tb sb : Nat) (l : List St) (e : Ending) (w' : World) : Prop :=
  ∃ A' c', e = .returned (.tuple #[.slice A' l.length c', .bool true]) ∧ IsTable w' tb sb l ∧ Th w' (fun g => g = sb ∨ g = tb) A' l ∧ Keep (· = sb) w w'

set_option maxHeartbeats 1000000 in
theorem do0 (hk : a.k = 0) : Calls Try.prog 23 #[.pointer (some ⟨tb, 0, none⟩), .slice A l.length c, .agg a.cells.toArray] w (DoPost w tb sb (acqR l a.t a.w a.e a.n a.l).1) := by
  have hk0 : Same w (w.alloc (.cells a.cells.toArray 47)) := (Keep.refl _ _).alloc _
  have HB := hid (Blk.made w 47 a.cells.toArray)
  have HT := hid (hT.keep hk0 (fun f => f) (fun f => f))
  have HH := hid (hH.same hk0)
  have hsb := hT.row.lt
  have htb := hT.top.lt
  have hs := hT.small
  clear hT hH
  obtain ⟨k, t, ww, ep, n, len⟩ := a
  simp only at hk
  subst hk
  simp only [Ac.cells]
  go_enter Try.func23, Try.ntmps23
  go_wp2_with fail
  refine (acq_any _ tb sb l HT.out t ww ep n len).mono ?_
  rintro e w1 ⟨rfl, hT1, hk1⟩
  have hB1 := HB.out.keep hk1 (by omega)
  obtain ⟨b0, b1, b2, b3, b4, b5⟩ := Ac.facts hB1
  have hz := hB1.lt
  have HT1 := hid hT1
  have HK1 := hid (hk0.wide (T := (· = sb)) (fun _ _ f => f.elim) |>.trans hk1 (fun _ _ h => h))
  have HH1 := hid (HH.out.keep hk1 (fun i _ h => .inl h))
  clear hT1 hk1 hB1
  go_wp2_with fail
  refine (take_any w1 _ (fun i h => by rcases h with h | h <;> omega) A c l HH1.out hs t ww ep n len).mono ?_
  rintro e w2 ⟨A', c', rfl, hH2, hk2⟩
  go_wp2
  go_ret2
  exact ⟨A', c', rfl, HT1.out.keep hk2 (fun f => f) (fun f => f), hH2, HK1.out.then hk2⟩
set_option maxHeartbeats 1000000 in
theorem do1 (hk : a.k = 1) : Calls Try.prog 23 #[.pointer (some ⟨tb, 0, none⟩), .slice A l.length c, .agg a.cells.toArray] w (DoPost w tb sb (renR l a.t a.w a.e a.n a.l).1) := by
  have hk0 : Same w (w.alloc (.cells a.cells.toArray 47)) := (Keep.refl _ _).alloc _
  have HB := hid (Blk.made w 47 a.cells.toArray)
  have HT := hid (hT.keep hk0 (fun f => f) (fun f => f))
  have HH := hid (hH.same hk0)
  have hsb := hT.row.lt
  have htb := hT.top.lt
  have hs := hT.small
  clear hT hH
  obtain ⟨k, t, ww, ep, n, len⟩ := a
  simp only at hk
  subst hk
  simp only [Ac.cells]
  go_enter Try.func23, Try.ntmps23
  go_wp2_with fail
  refine (ren_any _ tb sb l HT.out t ww ep n len).mono ?_
  rintro e w1 ⟨rfl, hT1, hk1⟩
  have hB1 := HB.out.keep hk1 (by omega)
  obtain ⟨b0, b1, b2, b3, b4, b5⟩ := Ac.facts hB1
  have hz := hB1.lt
  have HT1 := hid hT1
  have HK1 := hid (hk0.wide (T := (· = sb)) (fun _ _ f => f.elim) |>.trans hk1 (fun _ _ h => h))
  have HH1 := hid (HH.out.keep hk1 (fun i _ h => .inl h))
  clear hT1 hk1 hB1
  go_wp2_with fail
  refine (hold_any w1 _ (fun i h => by rcases h with h | h <;> omega) A c l HH1.out hs t ww ep n len).mono ?_
  rintro e w2 ⟨A', c', rfl, hH2, hk2⟩
  go_wp2
  go_ret2
  exact ⟨A', c', rfl, HT1.out.keep hk2 (fun f => f) (fun f => f), hH2, HK1.out.then hk2⟩
set_option maxHeartbeats 1000000 in
theorem do2 (hk : a.k = 2) : Calls Try.prog 23 #[.pointer (some ⟨tb, 0, none⟩), .slice A l.length c, .agg a.cells.toArray] w (DoPost w tb sb (relR l a.t a.w a.e a.n).1) := by
  have hk0 : Same w (w.alloc (.cells a.cells.toArray 47)) := (Keep.refl _ _).alloc _
  have HB := hid (Blk.made w 47 a.cells.toArray)
  have HT := hid (hT.keep hk0 (fun f => f) (fun f => f))
  have HH := hid (hH.same hk0)
  have hsb := hT.row.lt
  have htb := hT.top.lt
  have hs := hT.small
  clear hT hH
  obtain ⟨k, t, ww, ep, n, len⟩ := a
  simp only at hk
  subst hk
  simp only [Ac.cells]
  go_enter Try.func23, Try.ntmps23
  go_wp2_with fail
  refine (rel_any _ tb sb l HT.out t ww ep n).mono ?_
  rintro e w1 ⟨rfl, hT1, hk1⟩
  have hB1 := HB.out.keep hk1 (by omega)
  obtain ⟨b0, b1, b2, b3, b4, b5⟩ := Ac.facts hB1
  have hz := hB1.lt
  have HT1 := hid hT1
  have HK1 := hid (hk0.wide (T := (· = sb)) (fun _ _ f => f.elim) |>.trans hk1 (fun _ _ h => h))
  have HH1 := hid (HH.out.keep hk1 (fun i _ h => .inl h))
  clear hT1 hk1 hB1
  go_wp2_with fail
  refine (give_any w1 _ (fun i h => by rcases h with h | h <;> omega) A c l HH1.out hs t ww ep n).mono ?_
  rintro e w2 ⟨A', c', rfl, hH2, hk2⟩
  go_wp2
  go_ret2
  exact ⟨A', c', rfl, HT1.out.keep hk2 (fun f => f) (fun f => f), hH2, HK1.out.then hk2⟩
set_option maxHeartbeats 1000000 in
theorem do3 (h0 : ¬ a.k = 0) (h1 : ¬ a.k = 1) (h2 : ¬ a.k = 2) : Calls Try.prog 23 #[.pointer (some ⟨tb, 0, none⟩), .slice A l.length c, .agg a.cells.toArray] w (DoPost w tb sb l) := by
  have hk0 : Same w (w.alloc (.cells a.cells.toArray 47)) := (Keep.refl _ _).alloc _
  have HT := hid (hT.keep hk0 (fun f => f) (fun f => f))
  have HH := hid (hH.same hk0)
  clear hT hH
  obtain ⟨k, t, ww, ep, n, len⟩ := a
  simp only at h0 h1 h2
  simp only [Ac.cells]
  have e0 : (k == 0) = false := by simpa using h0
  have e1 : (k == 1) = false := by simpa using h1
  have e2 : (k == 2) = false := by simpa using h2
  go_enter Try.func23, Try.ntmps23
  go_wp2
  go_ret2
  exact ⟨A, c, rfl, HT.out, HH.out, hk0.wide (fun _ _ f => f.elim)⟩
theorem do_any : Calls Try.prog 23 #[.pointer (some ⟨tb, 0, none⟩), .slice A l.length c, .agg a.cells.toArray] w (DoPost w tb sb (doR l a)) := by
  unfold doR
  by_cases h0 : a.k = 0
  · rw [if_pos h0]; exact do0 w tb sb l hT A c hH a h0
  · rw [if_neg h0]
    by_cases h1 : a.k = 1
    · rw [if_pos h1]; exact do1 w tb sb l hT A c hH a h1
    · rw [if_neg h1]
      by_cases h2 : a.k = 2
      · rw [if_pos h2]; exact do2 w tb sb l hT A c hH a h2
      · rw [if_neg h2]; exact do3 w tb sb l hT A c hH a h0 h1 h2
end

/-! ## The reference's New and Last -/
def RlPost (w : World) (r : Int × Int × Int) (e : Ending) (w' : World) : Prop := ∃ gvv : Int, e = .returned (.agg #[.int .i64 r.1, .int .i64 r.2.1, .int .i64 r.2.2, .int .i64 gvv]) ∧ Same w w'
set_option maxHeartbeats 1000000 in
theorem rlast_any (w : World) (Av : Nat → Prop) (A : Option Addr) (c : Nat) (l : List St) (hH : Th w Av A l) (_hs : l.length ≤ 64) (thing : Int) :
    Calls Try.prog 14 #[.slice A l.length c, .int .i64 thing] w (RlPost w (lastR l thing)) := by
  unfold lastR
  by_cases h0 : 0 ≤ thing
  · rw [if_pos h0]
    obtain ⟨i, rfl⟩ := Int.eq_ofNat_of_zero_le h0
    simp only [Int.toNat_natCast]
    by_cases hi : i < l.length
    · obtain ⟨s, hls⟩ := get_some hi
      obtain ⟨b, off, rfl, hb, c0, c1, c2, c3⟩ := hH.at4 hls
      rw [hls]
      simp only
      clear hls hH
      generalize l.length = n at *
      go_enter Try.func14, Try.ntmps14
      go_wp2
      refine bodyPost_ret (v := .agg #[.int .i64 s.h, .int .i64 s.e, .int .i64 s.u, .int .i64 (gv s.r)]) (by simp [results, Try.results14, go_sem]) rfl ⟨_, rfl, ?_⟩
      exact (Keep.refl _ _).alloc _
    · rw [List.getElem?_eq_none (by omega)]
      clear hH
      generalize l.length = n at *
      go_enter Try.func14, Try.ntmps14
      go_wp2
      refine bodyPost_ret (v := .agg #[.int .i64 0, .int .i64 0, .int .i64 0, .int .i64 0]) (by simp [results, Try.results14, go_sem]) rfl ⟨_, rfl, ?_⟩
      exact (Keep.refl _ _).alloc _
  · rw [if_neg h0]
    clear hH
    go_enter Try.func14, Try.ntmps14
    go_wp2
    refine bodyPost_ret (v := .agg #[.int .i64 0, .int .i64 0, .int .i64 0, .int .i64 0]) (by simp [results, Try.results14, go_sem]) rfl ⟨_, rfl, ?_⟩
    exact (Keep.refl _ _).alloc _
end Go.Proofs.Ytffodheoamlhjaa

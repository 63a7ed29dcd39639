import Derived.Test.YtbellndcgagclaaClone
namespace Go.Proofs.Ytbellndcgagclaa
open Go.RowKit

/-! ## The log in memory -/
structure IsLog (w : World) (Av : Nat → Prop) (lb : Nat) (r : Option Nat) (A : Option Addr) (c : Nat) (l : List En) : Prop where
  top : Blk w lb 73 #[.slice A l.length c]
  row : Own w 0 46 3 (.slice A l.length c) l.length (enFlat l)
  at_ : A.map (·.block) = r
  lbv : ¬ Av lb
  rv : ∀ g, r = some g → ¬ Av g ∧ g ≠ lb
  el : ∀ e ∈ l, EnOk w (fun i => Av i ∨ i = lb ∨ some i = r) e
  ok : ∀ e ∈ l, rightP e.pe = true

section
variable {w w' : World} {Av Av' S : Nat → Prop} {lb : Nat} {r : Option Nat} {A : Option Addr} {c : Nat} {l : List En}
theorem IsLog.keep (h : IsLog w Av lb r A c l) (hk : Keep S w w') (hS : ∀ i, i < w.heap.size → S i → Av i) : IsLog w' Av lb r A c l := by
  refine ⟨h.top.keep hk (fun hs => h.lbv (hS _ h.top.lt hs)), ?_, h.at_, h.lbv, h.rv, fun e he => (h.el e he).keep hk (fun i hi hs => .inl (hS i hi hs)), h.ok⟩
  refine ⟨h.row.1, ?_⟩
  rcases h.row.2 with h2 | ⟨g, cap, cur, hv, hb, hh, rest⟩
  · exact .inl h2
  · refine .inr ⟨g, cap, cur, hv, hb, ?_, rest⟩
    have hl : g < w.heap.size := Blk.lt (t := 46) (cs := cur) hh
    injection hv with hA
    have hr := h.at_
    rw [hA] at hr
    exact (hk.block g hl (fun hs => (h.rv g hr.symm).1 (hS g hl hs))).trans hh
theorem IsLog.same (h : IsLog w Av lb r A c l) (hk : Same w w') : IsLog w' Av lb r A c l := h.keep hk (fun _ _ f => f.elim)
theorem IsLog.wide (h : IsLog w Av lb r A c l) (hS : ∀ i, i < w.heap.size → Av' i → Av i) : IsLog w Av' lb r A c l := by
  have hrl : ∀ g, r = some g → g < w.heap.size := by
    intro g hg
    rcases h.row.2 with ⟨h2, _⟩ | ⟨g', cap, cur, hv, hb, hh, rest⟩
    · injection h2 with hA
      have := h.at_
      rw [hA, hg] at this
      cases this
    · injection hv with hA
      have := h.at_
      rw [hA, hg] at this
      injection this with this
      have hl : g' < w.heap.size := Blk.lt (t := 46) (cs := cur) hh
      simp only at this
      omega
  exact ⟨h.top, h.row, h.at_, fun hx => h.lbv (hS _ h.top.lt hx), fun g hg => ⟨fun hx => (h.rv g hg).1 (hS g (hrl g hg) hx), (h.rv g hg).2⟩, fun e he => (h.el e he).wide (fun i hi hx => by
    rcases hx with hx | hx
    · exact .inl (hS i hi hx)
    · exact .inr hx), h.ok⟩
theorem IsLog.cap (h : IsLog w Av lb r A c l) : l.length ≤ c := by
  rcases Nat.eq_zero_or_pos l.length with h0 | h0
  · omega
  · obtain ⟨_, _, _, _, _, h1, _⟩ := h.row.open_ h0
    exact h1
theorem IsLog.ls (h : IsLog w Av lb r A c l) : Ls w (fun i => Av i ∨ i = lb) A l.length c l := by
  refine ⟨rfl, ⟨h.row.1, fun hn => ?_⟩, fun e he => (h.el e he).wide (fun i _ hx => by rcases hx with hx | hx <;> simp [hx]), h.cap⟩
  obtain ⟨g, cur, rfl, hb, hB, h1, h2, h3, h4⟩ := h.row.open_ hn
  refine ⟨g, 0, rfl, hB.lt, ?_, fun j u hu => ?_⟩
  · have := h.rv g h.at_.symm
    rintro (hx | hx)
    · exact this.1 hx
    · exact this.2 hx
  · rw [Nat.zero_add]
    exact h.row.cell hu
theorem IsLog.c0 (h : IsLog w Av lb r A c l) : w.cell? ⟨lb, 0, none⟩ = some (.slice A l.length c) := h.top.at_ 0
end

def LastPost (w : World) (n : Nat) (t : Int) (e : Ending) (w' : World) : Prop := e = .returned (.tuple #[.int .i64 n, .int .i64 t]) ∧ Same w w'
theorem rlast_any (w : World) (Av : Nat → Prop) (X : Option Addr) (n c : Nat) (l : List En) (h : Ls w Av X n c l) (hn : n ≤ 1000) : Calls Try.prog 42 #[.slice X n c] w (LastPost w n (lastT En.pe l)) := by
  have hl := h.len
  rcases Nat.eq_zero_or_pos n with h0 | h0
  · have e : lastT En.pe l = 0 := by
      have : l = [] := List.eq_nil_of_length_eq_zero (by omega)
      subst this; rfl
    rw [e]
    subst h0
    clear h
    go_enter Try.func42, Try.ntmps42
    go_wp2_with fail
    go_ret2
    exact ⟨rfl, Keep.refl _ _⟩
  · obtain ⟨j, rfl⟩ : ∃ j, n = j + 1 := ⟨n - 1, by omega⟩
    obtain ⟨e, he⟩ := get_some (l := l) (k := j) (by omega)
    have hv : lastT En.pe l = e.t := by simp only [lastT, hl, Nat.add_sub_cancel, he, Option.elim, En.pe]
    rw [hv]
    obtain ⟨b, off, rfl, c0, c1, c2⟩ := h.at_ he
    have hn1 : ((j + 1 : Nat) : Int) - 1 = j := by omega
    clear h he hv
    go_enter Try.func42, Try.ntmps42
    go_wp2_with fail
    go_quiet (fail)
    go_wp2_with fail
    go_ret2
    exact ⟨rfl, (Keep.refl _ _).drewN _⟩

theorem last_any (w : World) (Av : Nat → Prop) (lb : Nat) (r : Option Nat) (A : Option Addr) (c : Nat) (l : List En) (h : IsLog w Av lb r A c l) (hn : l.length ≤ 1000) : Calls Try.prog 35 #[.pointer (some ⟨lb, 0, none⟩)] w (LastPost w l.length (lastT En.pe l)) := by
  have h0 := h.c0
  have hls := h.ls
  clear h
  rcases Nat.eq_zero_or_pos l.length with hz | hz
  · have e : lastT En.pe l = 0 := by
      have : l = [] := List.eq_nil_of_length_eq_zero hz
      subst this; rfl
    rw [e, hz]
    rw [hz] at h0
    clear hls hn hz e
    go_enter Try.func35, Try.ntmps35
    go_wp2_with fail
    go_ret2
    exact ⟨rfl, Keep.refl _ _⟩
  · obtain ⟨j, hj⟩ : ∃ j, l.length = j + 1 := ⟨l.length - 1, by omega⟩
    obtain ⟨e, he⟩ := get_some (l := l) (k := j) (by omega)
    have hv : lastT En.pe l = e.t := by simp only [lastT, hj, Nat.add_sub_cancel, he, Option.elim, En.pe]
    rw [hv]
    obtain ⟨b, off, rfl, c0, c1, c2⟩ := hls.at_ he
    clear hls he hv
    rw [hj] at h0 hn ⊢
    have hn1 : ((j + 1 : Nat) : Int) - 1 = j := by omega
    clear hj hz
    go_enter Try.func35, Try.ntmps35
    go_wp2_with fail
    go_quiet (fail)
    go_wp2_with fail
    go_ret2
    exact ⟨rfl, (Keep.refl _ _).drewN _⟩

def TermPost (w : World) (t : Int) (b : Bool) (e : Ending) (w' : World) : Prop := e = .returned (.tuple #[.int .i64 t, .bool b]) ∧ Same w w'
theorem termB_no {l : List En} {n : Int} (h : n < 0 ∨ (l.length : Int) < n) : termB l n = false ∧ termT En.pe l n = 0 := by
  constructor
  · simp only [termB]
    by_cases h0 : 0 ≤ n
    · have : ¬ n ≤ l.length := by omega
      simp [this]
    · simp [h0]
  · unfold termT
    by_cases h0 : n < 1
    · rw [if_pos h0]
    · rw [if_neg h0, List.getElem?_eq_none (by omega)]; rfl
theorem rterm_any (w : World) (Av : Nat → Prop) (X : Option Addr) (n c : Nat) (l : List En) (h : Ls w Av X n c l) (hn : n ≤ 1000) (i : Int) : Calls Try.prog 24 #[.slice X n c, .int .i64 i] w (TermPost w (termT En.pe l i) (termB l i)) := by
  have hl := h.len
  by_cases hi : i < 0 ∨ (n : Int) < i
  · obtain ⟨e1, e2⟩ := termB_no (l := l) (n := i) (by omega)
    rw [e1, e2]
    clear h
    have h0 : ¬ i = 0 := by omega
    have h0f : (i == 0) = false := by simpa using h0
    rcases hi with hi | hi
    all_goals
      go_enter Try.func24, Try.ntmps24
      go_wp2_with fail
      go_ret2
      exact ⟨rfl, Keep.refl _ _⟩
  · by_cases h0 : i = 0
    · subst h0
      have e1 : termT En.pe l 0 = 0 := by simp [termT]
      have e2 : termB l 0 = true := by simp [termB]
      rw [e1, e2]
      clear h
      go_enter Try.func24, Try.ntmps24
      go_wp2_with fail
      go_ret2
      exact ⟨rfl, Keep.refl _ _⟩
    · obtain ⟨j, rfl⟩ : ∃ j : Nat, i = (j : Int) + 1 := ⟨(i - 1).toNat, by omega⟩
      obtain ⟨e, he⟩ := get_some (l := l) (k := j) (by omega)
      have hv : termT En.pe l ((j : Int) + 1) = e.t := by
        unfold termT
        rw [if_neg (by omega), show ((j : Int) + 1 - 1).toNat = j by omega, he]; rfl
      have hb : termB l ((j : Int) + 1) = true := by simp [termB]; omega
      rw [hv, hb]
      obtain ⟨b, off, rfl, c0, c1, c2⟩ := h.at_ he
      have hjn : j < n := by omega
      have hf : (((j : Int) + 1) == 0) = false := by simpa using h0
      have h1 : ((j : Int) + 1 - 1) = j := by omega
      clear h he hv hb hi
      go_enter Try.func24, Try.ntmps24
      go_wp2_with fail
      go_ret2
      exact ⟨rfl, Keep.refl _ _⟩
theorem term_any (w : World) (Av : Nat → Prop) (lb : Nat) (r : Option Nat) (A : Option Addr) (c : Nat) (l : List En) (h : IsLog w Av lb r A c l) (hn : l.length ≤ 1000) (i : Int) : Calls Try.prog 23 #[.pointer (some ⟨lb, 0, none⟩), .int .i64 i] w (TermPost w (termT En.pe l i) (termB l i)) := by
  have hc := h.c0
  have hls := h.ls
  clear h
  by_cases hi : i < 0 ∨ (l.length : Int) < i
  · obtain ⟨e1, e2⟩ := termB_no (l := l) (n := i) (by omega)
    rw [e1, e2]
    clear hls e1 e2
    generalize l.length = n at *
    rcases hi with hi | hi
    · go_enter Try.func23, Try.ntmps23
      go_wp2_with fail
      go_ret2
      exact ⟨rfl, Keep.refl _ _⟩
    · have h0 : ¬ i < 0 := by omega
      go_enter Try.func23, Try.ntmps23
      go_wp2_with fail
      go_ret2
      exact ⟨rfl, Keep.refl _ _⟩
  · by_cases h0 : i = 0
    · subst h0
      have e1 : termT En.pe l 0 = 0 := by simp [termT]
      have e2 : termB l 0 = true := by simp [termB]
      rw [e1, e2]
      clear hls e1 e2
      generalize l.length = n at *
      go_enter Try.func23, Try.ntmps23
      go_wp2_with fail
      go_ret2
      exact ⟨rfl, Keep.refl _ _⟩
    · obtain ⟨j, rfl⟩ : ∃ j : Nat, i = (j : Int) + 1 := ⟨(i - 1).toNat, by omega⟩
      obtain ⟨e, he⟩ := get_some (l := l) (k := j) (by omega)
      have hv : termT En.pe l ((j : Int) + 1) = e.t := by
        unfold termT
        rw [if_neg (by omega), show ((j : Int) + 1 - 1).toNat = j by omega, he]; rfl
      have hb : termB l ((j : Int) + 1) = true := by simp [termB]; omega
      rw [hv, hb]
      obtain ⟨b, off, rfl, c0, c1, c2⟩ := hls.at_ he
      have hjn : j < l.length := by omega
      have hf : (((j : Int) + 1) == 0) = false := by simpa using h0
      have h1 : ((j : Int) + 1 - 1) = j := by omega
      clear hls he hv hb hi
      generalize l.length = n at *
      go_enter Try.func23, Try.ntmps23
      go_wp2_with fail
      go_ret2
      exact ⟨rfl, Keep.refl _ _⟩
end Go.Proofs.Ytbellndcgagclaa

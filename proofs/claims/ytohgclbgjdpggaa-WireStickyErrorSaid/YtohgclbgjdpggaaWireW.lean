import Derived.Test.YtohgclbgjdpggaaWireV
namespace Go.Proofs.Ytohgclbgjdpggaa
open Go.RowKit

section
variable (w : World) (rb : Nat) (Av : Nat → Prop) (A : Option Addr) (n c : Nat)
theorem Rq.len {w : World} {rb : Nat} {Av : Nat → Prop} {A : Option Addr} {n c : Nat} {s : RS} (h : Rq w rb Av A n c s) (he : s.err = 0) : s.rest.length = n := by have := (h.sl he).1.len; simpa [bcells] using this
set_option maxHeartbeats 2000000 in
theorem qInt_any (s : RS) (h : Rq w rb Av A n c s) (hsz : s.rest.length ≤ 1000000000) :
    Calls Try.prog 32 #[.pointer (some ⟨rb, 0, none⟩)] w (QPost w rb Av (rdInt s).2 (.int .i64 (rdInt s).1)) := by
  by_cases he : s.err = 0
  · have hl := h.len he
    rw [rs_of he] at h ⊢
    exact qInt_ok w rb Av A n c s.rest h (by omega)
  · rw [rdInt_err he]
    have H := hid h
    have c1 : w.cell? ⟨rb, 1, none⟩ = some (.int .i64 s.err) := h.top.at_ 1
    have he' : (s.err != 0) = true := by simpa using he
    clear h he
    go_enter Try.func32, Try.ntmps32
    go_wp2
    go_ret
    exact ⟨A, n, c, rfl, H.out, Keep.refl _ _⟩
/-- an error is set -/
theorem Rq.fail {w : World} {rb : Nat} {Av : Nat → Prop} {A : Option Addr} {n c : Nat} {s : RS} (h : Rq w rb Av A n c s) (e : Int) (he : ¬ e = 0) : Rq (w.setCell ⟨rb, 1, none⟩ (.int .i64 e)) rb Av A n c ⟨[], e⟩ := by
  refine ⟨?_, fun e' => absurd e' he, h.av⟩
  have := h.top.put 1 (.int .i64 e)
  simpa using this
set_option maxHeartbeats 2000000 in
theorem many_any (s : RS) (h : Rq w rb Av A n c s) (hsz : s.rest.length ≤ 1000000000) :
    Calls Try.prog 33 #[.pointer (some ⟨rb, 0, none⟩)] w (QPost w rb Av (rdMany s).2 (.int .i64 (rdMany s).1)) := by
  have HI := hid (qInt_any w rb Av A n c s h hsz)
  have hl := rdInt_len s
  unfold rdMany
  generalize rdInt s = q at *
  obtain ⟨v, l1, e1⟩ := q
  simp only at HI hl ⊢
  clear h
  by_cases he : e1 = 0
  · subst he
    simp only [not_true_eq_false, if_false]
    by_cases hv : v < 0
    · rw [if_pos hv]
      go_enter Try.func33, Try.ntmps33
      go_wp2_with fail
      refine HI.out.mono ?_
      rintro e w2 ⟨A2, n2, c2, rfl, g1, g2⟩
      have c0 : w2.cell? ⟨rb, 0, none⟩ = some (.slice A2 n2 c2) := g1.top.at_ 0
      have c1 : w2.cell? ⟨rb, 1, none⟩ = some (.int .i64 0) := g1.top.at_ 1
      have f1 := g1.top.free 1
      have G1 := hid (g1.fail 2 (by omega))
      have G2 := hid (g2.put 1 (.int .i64 2))
      clear g1 g2
      go_wp2
      go_ret
      exact ⟨A2, n2, c2, rfl, G1.out, G2.out⟩
    · rw [if_neg hv]
      by_cases hm : (l1.length : Int) < v
      · rw [if_pos hm]
        go_enter Try.func33, Try.ntmps33
        go_wp2_with fail
        refine HI.out.mono ?_
        rintro e w2 ⟨A2, n2, c2, rfl, g1, g2⟩
        have c0 : w2.cell? ⟨rb, 0, none⟩ = some (.slice A2 n2 c2) := g1.top.at_ 0
        have c1 : w2.cell? ⟨rb, 1, none⟩ = some (.int .i64 0) := g1.top.at_ 1
        have f1 := g1.top.free 1
        have hl2 : (n2 : Int) < v := by have := g1.len rfl; simp only at this; omega
        have hl3 : n2 ≤ 1000000000 := by have := g1.len rfl; simp only at this; omega
        have G1 := hid (g1.fail 11 (by omega))
        have G2 := hid (g2.put 1 (.int .i64 11))
        clear g1 g2 hm
        go_wp2
        go_ret
        exact ⟨A2, n2, c2, rfl, G1.out, G2.out⟩
      · rw [if_neg hm]
        go_enter Try.func33, Try.ntmps33
        go_wp2_with fail
        refine HI.out.mono ?_
        rintro e w2 ⟨A2, n2, c2, rfl, g1, g2⟩
        have c0 : w2.cell? ⟨rb, 0, none⟩ = some (.slice A2 n2 c2) := g1.top.at_ 0
        have c1 : w2.cell? ⟨rb, 1, none⟩ = some (.int .i64 0) := g1.top.at_ 1
        have hl2 : v ≤ (n2 : Int) := by have := g1.len rfl; simp only at this; omega
        have hl3 : n2 ≤ 1000000000 := by have := g1.len rfl; simp only at this; omega
        have G1 := hid g1
        have G2 := hid g2
        clear g1 g2 hm
        go_wp2
        go_ret
        exact ⟨A2, n2, c2, rfl, G1.out, G2.out⟩
  · simp only [he, not_false_eq_true, if_true]
    have he' : (e1 != 0) = true := by simpa using he
    clear he
    go_enter Try.func33, Try.ntmps33
    go_wp2_with fail
    refine HI.out.mono ?_
    rintro e w2 ⟨A2, n2, c2, rfl, g1, g2⟩
    have c1 : w2.cell? ⟨rb, 1, none⟩ = some (.int .i64 e1) := g1.top.at_ 1
    have G1 := hid g1
    have G2 := hid g2
    clear g1 g2
    go_wp2
    go_ret
    exact ⟨A2, n2, c2, rfl, G1.out, G2.out⟩
set_option maxHeartbeats 2000000 in
theorem end_any (s : RS) (h : Rq w rb Av A n c s) (hsz : s.rest.length ≤ 1000000000) :
    Calls Try.prog 15 #[.pointer (some ⟨rb, 0, none⟩)] w fun e w' => e = .returned (.int .i64 (endE s)) ∧ w = w' := by
  have c0 : w.cell? ⟨rb, 0, none⟩ = some (.slice A n c) := h.top.at_ 0
  have c1 : w.cell? ⟨rb, 1, none⟩ = some (.int .i64 s.err) := h.top.at_ 1
  have hl := fun e => h.len e
  obtain ⟨l, er⟩ := s
  simp only at hl hsz c0 c1
  unfold endE
  simp only
  clear h
  by_cases he : er = 0
  · subst he
    have hl := hl rfl
    rw [if_pos rfl]
    by_cases hn : n = 0
    · subst hn
      rw [if_pos (List.eq_nil_of_length_eq_zero hl)]
      clear hl
      go_enter Try.func15, Try.ntmps15
      go_wp2
      go_ret
      exact ⟨rfl, rfl⟩
    · rw [if_neg (by rintro rfl; simp at hl; omega)]
      have h0 : 0 < n := by omega
      have h1 : n ≤ 1000000000 := by omega
      clear hl hn
      go_enter Try.func15, Try.ntmps15
      go_wp2
      go_ret
      exact ⟨rfl, rfl⟩
  · rw [if_neg he]
    have he' : (er == 0) = false := by simpa using he
    clear he hl
    go_enter Try.func15, Try.ntmps15
    go_wp2
    go_ret
    exact ⟨rfl, rfl⟩
end
end Go.Proofs.Ytohgclbgjdpggaa

import Derived.Test.YtkkenfgpmoediaaWireG
namespace Go.Proofs.Ytkkenfgpmoediaa
open Go.RowKit

theorem rdU_len : ∀ (l : List UInt8) (i acc : Nat), (rdU i acc l).2.1.length ≤ l.length
  | [], i, acc => by simp [rdU]
  | b :: l, i, acc => by
    unfold rdU
    split
    · simp
    · split
      · simp
      · have := rdU_len l (i + 1) (acc + b.toNat % 128 * 128 ^ i); simp; omega
theorem rdInt_len (s : RS) : (rdInt s).2.rest.length ≤ s.rest.length := by
  unfold rdInt
  split
  · exact Nat.le_refl _
  · split
    · exact rdU_len _ _ _
    · simp
theorem rdMany_len (s : RS) : (rdMany s).2.rest.length ≤ s.rest.length := by
  have := rdInt_len s
  unfold rdMany
  split
  · exact this
  · split
    · simp
    · split
      · simp
      · exact this
theorem rdMany_fit {s : RS} (_h : (rdMany s).2.err = 0) : 0 ≤ (rdMany s).1 ∧ (rdMany s).1 ≤ (rdMany s).2.rest.length := by
  unfold rdMany
  split
  · simp
  · split
    · simp
    · split
      · simp
      · omega
def endE (s : RS) : Int := if s.err = 0 then (if s.rest = [] then 0 else 2) else s.err

section
variable (w : World) (rb : Nat) (Av : Nat → Prop) (A : Option Addr) (n c : Nat)
set_option maxHeartbeats 1000000 in
theorem rInt_any (s : RS) (h : Rd w rb Av A n c s) :
    Calls Try.prog 40 #[.pointer (some ⟨rb, 0, none⟩)] w (RPost w rb Av (rdInt s).2 (.int .i64 (rdInt s).1)) := by
  by_cases he : s.err = 0
  · rw [rs_of he] at h ⊢
    exact rInt_ok w rb Av A n c s.rest h
  · rw [rdInt_err he]
    have H := hid h
    have HE := hid he
    clear h he
    go_enter Try.func40, Try.ntmps40
    go_wp2
    go_loopw [3, 7] (fun u i wr => i = .int .i64 0 ∧ wr = w) (fun _ i _ => 10 - (RowKit.intOf i).toNat)
    case atStart => exact ⟨rfl, rfl⟩
    case round =>
      obtain ⟨rfl, rfl⟩ := hrel
      go_wp2_with fail
      refine (next_err wr rb Av A n c s H.out HE.out).mono ?_
      rintro e w2 ⟨rfl, rfl⟩
      go_wp2
      go_ret
      exact ⟨A, n, c, rfl, H.out, Keep.refl _ _⟩
set_option maxHeartbeats 1000000 in
theorem length_any (s : RS) (h : Rd w rb Av A n c s) (hsz : s.rest.length ≤ 1000000000) :
    Calls Try.prog 48 #[.pointer (some ⟨rb, 0, none⟩)] w (RPost w rb Av (rdMany s).2 (.int .i64 (rdMany s).1)) := by
  have HI := hid (rInt_any w rb Av A n c s h)
  have hl := rdInt_len s
  unfold rdMany
  generalize rdInt s = q at *
  obtain ⟨v, l1, e1⟩ := q
  simp only at HI hl ⊢
  clear h
  by_cases he : e1 = 0
  · subst he
    simp only [not_true_eq_false, if_false]
    by_cases hv : v < 0
    · rw [if_pos hv]
      go_enter Try.func48, Try.ntmps48
      go_wp2_with fail
      refine HI.out.mono ?_
      rintro e w2 ⟨A2, n2, c2, rfl, g1, g2⟩
      have c0 := g1.top.at_ 0
      have c1 := g1.top.at_ 1
      have G1 := hid g1
      have G2 := hid g2
      clear g1 g2
      go_wp2_with fail
      refine (fail_any w2 rb Av A2 n2 c2 _ G1.out 2).mono ?_
      rintro e w3 ⟨A3, n3, c3, rfl, g3, g4⟩
      go_wp2
      go_ret
      exact ⟨A3, n3, c3, rfl, g3, G2.out.trans g4 (fun _ _ h => h)⟩
    · rw [if_neg hv]
      by_cases hm : (l1.length : Int) < v
      · rw [if_pos hm]
        go_enter Try.func48, Try.ntmps48
        go_wp2_with fail
        refine HI.out.mono ?_
        rintro e w2 ⟨A2, n2, c2, rfl, g1, g2⟩
        have c0 := g1.top.at_ 0
        have c1 := g1.top.at_ 1
        have hl2 : (n2 : Int) < v := by have := g1.len; simp only at this; omega
        have hl3 : n2 ≤ 1000000000 := by have := g1.len; simp only at this; omega
        have G1 := hid g1
        have G2 := hid g2
        clear g1 g2 hm
        go_wp2_with fail
        refine (fail_any w2 rb Av A2 n2 c2 _ G1.out 11).mono ?_
        rintro e w3 ⟨A3, n3, c3, rfl, g3, g4⟩
        go_wp2
        go_ret
        exact ⟨A3, n3, c3, rfl, g3, G2.out.trans g4 (fun _ _ h => h)⟩
      · rw [if_neg hm]
        go_enter Try.func48, Try.ntmps48
        go_wp2_with fail
        refine HI.out.mono ?_
        rintro e w2 ⟨A2, n2, c2, rfl, g1, g2⟩
        have c0 := g1.top.at_ 0
        have c1 := g1.top.at_ 1
        have hl2 : v ≤ (n2 : Int) := by have := g1.len; simp only at this; omega
        have hl3 : n2 ≤ 1000000000 := by have := g1.len; simp only at this; omega
        have G1 := hid g1
        have G2 := hid g2
        clear g1 g2 hm
        go_wp2
        go_ret
        exact ⟨A2, n2, c2, rfl, G1.out, G2.out⟩
  · simp only [he, not_false_eq_true, if_true]
    have he' : (e1 != 0) = true := by simpa using he
    clear he
    go_enter Try.func48, Try.ntmps48
    go_wp2_with fail
    refine HI.out.mono ?_
    rintro e w2 ⟨A2, n2, c2, rfl, g1, g2⟩
    have c1 := g1.top.at_ 1
    have G1 := hid g1
    have G2 := hid g2
    clear g1 g2
    go_wp2
    go_ret
    exact ⟨A2, n2, c2, rfl, G1.out, G2.out⟩
set_option maxHeartbeats 1000000 in
theorem finish_any (s : RS) (h : Rd w rb Av A n c s) (hsz : s.rest.length ≤ 1000000000) :
    Calls Try.prog 43 #[.pointer (some ⟨rb, 0, none⟩)] w fun e w' => e = .returned (.int .i64 (endE s)) ∧ w = w' := by
  have c0 := h.top.at_ 0
  have c1 := h.top.at_ 1
  have hl := h.len
  obtain ⟨l, er⟩ := s
  simp only at hl hsz c0 c1
  unfold endE
  simp only
  clear h
  by_cases he : er = 0
  · subst he
    rw [if_pos rfl]
    by_cases hn : n = 0
    · subst hn
      rw [if_pos (List.eq_nil_of_length_eq_zero hl)]
      clear hl
      go_enter Try.func43, Try.ntmps43
      go_wp2
      go_ret
      exact ⟨rfl, rfl⟩
    · rw [if_neg (by rintro rfl; simp at hl; omega)]
      have h0 : 0 < n := by omega
      have h1 : n ≤ 1000000000 := by omega
      clear hl hn
      go_enter Try.func43, Try.ntmps43
      go_wp2
      go_ret
      exact ⟨rfl, rfl⟩
  · rw [if_neg he]
    have he' : (er != 0) = true := by simpa using he
    clear he hl
    go_enter Try.func43, Try.ntmps43
    go_wp2
    go_ret
    exact ⟨rfl, rfl⟩
end
end Go.Proofs.Ytkkenfgpmoediaa

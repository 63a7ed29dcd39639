import Derived.Test.YtbellndcgagclaaOpenA
import Derived.Test.YtbellndcgagclaaComm2
namespace Go.Proofs.Ytbellndcgagclaa
open Go.RowKit

/-! ## The law CommonPrefix -/
theorem common_at (w : World) (Av Bv : Nat → Prop) (lb lb2 : Nat) (q q2 : List PE) (h : LogAt w Av lb q) (h2 : LogAt w Bv lb2 q2) (hn : q.length ≤ 1000) (hm : q2.length ≤ 1000) :
    Calls Try.prog 14 #[.pointer (some ⟨lb, 0, none⟩), .pointer (some ⟨lb2, 0, none⟩)] w (IntPost w (comm id q q2)) := by
  obtain ⟨r, A, c, l, h1, rfl⟩ := h
  obtain ⟨r2, A2, c2, l2, h3, rfl⟩ := h2
  rw [comm_map]
  exact common_any w Av Bv lb lb2 r r2 A A2 l.length c l2.length c2 l l2 h1 h3 rfl rfl (by simpa using hn) (by simpa using hm)
theorem Both.log {w : World} {B0 lb : Nat} {X : Option Addr} {n c : Nat} {q : List PE} (h : Both w B0 lb X n c q) : LogAt w (· < B0) lb q := by
  obtain ⟨r, A, d, l, m, h1, _, h3, _⟩ := h
  exact ⟨r, A, d, l, h1, h3⟩
def LsQ (w : World) (Av : Nat → Prop) (X : Option Addr) (n c : Nat) (q : List PE) : Prop := ∃ m, Ls w Av X n c m ∧ m.map En.pe = q
theorem LsQ.same {w w' : World} {Av : Nat → Prop} {X : Option Addr} {n c : Nat} {q : List PE} (h : LsQ w Av X n c q) (hk : Same w w') : LsQ w' Av X n c q := by
  obtain ⟨m, h1, h2⟩ := h; exact ⟨m, h1.same hk, h2⟩
theorem Both.ls {w : World} {B0 lb : Nat} {X : Option Addr} {n c : Nat} {q : List PE} (h : Both w B0 lb X n c q) : LsQ w (fun _ => False) X n c q := by
  obtain ⟨r, A, d, l, m, _, h2, _, h4⟩ := h
  exact ⟨m, h2.wide (fun _ _ f => f.elim), h4⟩
theorem rcommon_at (w : World) (Av Bv : Nat → Prop) (X Y : Option Addr) (n c m d : Nat) (q q2 : List PE) (h : LsQ w Av X n c q) (h2 : LsQ w Bv Y m d q2) (hn : n ≤ 1000) (hm : m ≤ 1000) :
    Calls Try.prog 15 #[.slice X n c, .slice Y m d] w (IntPost w (comm id q q2)) := by
  obtain ⟨l, h1, rfl⟩ := h
  obtain ⟨l2, h3, rfl⟩ := h2
  rw [comm_map]
  exact rcommon_any w Av Bv X Y n c m d l l2 h1 h3 hn hm
theorem comm_symm : ∀ (l m : List PE), comm id l m = comm id m l
  | [], [] => rfl
  | [], _ :: _ => rfl
  | _ :: _, [] => rfl
  | a :: l, b :: m => by
    simp only [comm, id]
    by_cases h : a = b
    · subst h; simp [comm_symm l m]
    · rw [if_neg h, if_neg (fun e => h e.symm)]
theorem comm_self : ∀ (l : List PE), comm id l l = l.length
  | [] => rfl
  | a :: l => by simp [comm, comm_self l]
theorem smallA_ok {l : List LAct} (h : smallA l = true) : l.length ≤ 40 ∧ (ents l).length ≤ 120 := by
  simp only [smallA, Bool.and_eq_true, decide_eq_true_eq] at h
  exact h.2
theorem playQ_le {l : List LAct} (h : (ents l).length ≤ 120) : (playQ l).length ≤ 120 := by
  have := playQ_len l l.length (Nat.le_refl _)
  rw [List.take_length] at this
  omega
set_option maxHeartbeats 4000000 in
set_option maxRecDepth 100000 in
theorem raftlogCommonPrefix_walk (W : World) (X : Option Addr) (n c : Nat) (l : List LAct) (h : As W (fun _ => False) X n c l) (hf : Few l) (Y : Option Addr) (m d : Nat) (l2 : List LAct) (h2 : As W (fun _ => False) Y m d l2) (hf2 : Few l2) :
    Calls Try.prog 3 #[.slice X n c, .slice Y m d] W (PlainPost W true) := by
  have HS := hid (fun w (hs : Same W w) => small_any w (fun _ => False) X n c l (h.same hs) hf)
  have HS2 := hid (fun w (hs : Same W w) => small_any w (fun _ => False) Y m d l2 (h2.same hs) hf2)
  have HP := hid (fun w (hs : Same W w) => play_any w (fun _ => False) X n c l (h.same hs))
  have HP2 := hid (fun w (hs : Same W w) => play_any w (fun _ => False) Y m d l2 (h2.same hs))
  clear h hf h2 hf2
  by_cases hs1 : smallA l = true
  · by_cases hs2 : smallA l2 = true
    · rw [hs1] at HS
      rw [hs2] at HS2
      have hl := smallA_ok hs1
      have hl2 := smallA_ok hs2
      have hq := playQ_le hl.2
      have hq2 := playQ_le hl2.2
      have HL := hid hl
      have HL2 := hid hl2
      have hsy := hid (comm_symm (playQ l2) (playQ l))
      have hse := hid (comm_self (playQ l))
      clear hs1 hs2 hl hl2
      generalize playQ l = q at *
      generalize playQ l2 = q2 at *
      go_enter Try.func3, Try.ntmps3
      go_wp2_with (first
        | (go_at_call 11; (with_reducible refine (wakes_any _).mono ?_); rintro e w1 ⟨rfl, hk1⟩
           have HK1 := hid hk1
           have HSa := hid (HS.out _ hk1)
           clear hk1)
        | (go_at_call 12; (with_reducible refine HSa.out.mono ?_); rintro e w2 ⟨rfl, hk2⟩
           have HK2 := hid (HK1.out.then hk2)
           have HSb := hid (HS2.out _ HK2.out)
           clear hk2 HSa)
        | (go_at_call 12; (with_reducible refine HSb.out.mono ?_); rintro e w3 ⟨rfl, hk3⟩
           have HK3 := hid (HK2.out.then hk3)
           have HPa := hid (HP.out _ HK3.out HL.out.2 HL.out.1)
           clear hk3 HSb)
        | (go_at_call 13; (with_reducible refine HPa.out.mono ?_); rintro e w4 ⟨lb, X4, n4, c4, rfl, hB4, hk4, hlb⟩
           have HB4 := hid hB4
           have HK4 := hid (HK3.out.then hk4)
           have HPb := hid (HP2.out _ HK4.out HL2.out.2 HL2.out.1)
           clear hB4 hk4 HPa)
        | (go_at_call 13; (with_reducible refine HPb.out.mono ?_); rintro e w5 ⟨lb2, X5, n5, c5, rfl, hB5, hk5, hlb2⟩
           have HB5 := hid hB5
           have HB4' := hid (HB4.out.keep hk5)
           have hn4 := HB4.out.len
           have hn5 := hB5.len
           have HK5 := hid (HK4.out.then hk5)
           have HC1 := hid (common_at _ _ _ _ _ _ _ HB4'.out.log hB5.log (by omega) (by omega))
           have HC2 := hid (fun w (hs : Same w5 w) => rcommon_at w _ _ _ _ _ _ _ _ _ _ (HB4'.out.ls.same hs) (HB5.out.ls.same hs) (by omega) (by omega))
           have HC3 := hid (fun w (hs : Same w5 w) => common_at w _ _ _ _ _ _ (HB5.out.log.same hs) (HB4'.out.log.same hs) (by omega) (by omega))
           have HC4 := hid (fun w (hs : Same w5 w) => common_at w _ _ _ _ _ _ (HB4'.out.log.same hs) (HB4'.out.log.same hs) (by omega) (by omega))
           rw [hsy.out] at HC3
           rw [hse.out, hn4] at HC4
           clear hB5 hk5 HPb hn4 hn5)
        | (go_at_call 14; (with_reducible refine HC1.out.mono ?_); rintro e w6 ⟨rfl, hk6⟩
           have HK6 := hid hk6
           have HC2a := hid (HC2.out _ hk6)
           clear hk6 HC1)
        | (go_at_call 15; (with_reducible refine HC2a.out.mono ?_); rintro e w7 ⟨rfl, hk7⟩
           have HK7 := hid (HK6.out.then hk7)
           have HC3a := hid (HC3.out _ HK7.out)
           clear hk7 HC2a)
        | (go_at_call 14; (with_reducible refine HC3a.out.mono ?_); rintro e w8 ⟨rfl, hk8⟩
           have HK8 := hid (HK7.out.then hk8)
           have HC4a := hid (HC4.out _ HK8.out)
           clear hk8 HC3a)
        | (go_at_call 14; (with_reducible refine HC4a.out.mono ?_); rintro e w9 ⟨rfl, hk9⟩
           have HK9 := hid (HK8.out.then hk9)
           clear hk9 HC4a))
      go_ret
      exact ⟨by simp, HK5.out.then HK9.out⟩
    · have hs2' : smallA l2 = false := by simpa using hs2
      rw [hs1] at HS
      rw [hs2'] at HS2
      clear hs1 hs2 hs2'
      go_enter Try.func3, Try.ntmps3
      go_wp2_with (first
        | (go_at_call 11; (with_reducible refine (wakes_any _).mono ?_); rintro e w1 ⟨rfl, hk1⟩
           have HK1 := hid hk1
           have HSa := hid (HS.out _ hk1)
           clear hk1)
        | (go_at_call 12; (with_reducible refine HSa.out.mono ?_); rintro e w2 ⟨rfl, hk2⟩
           have HK2 := hid (HK1.out.then hk2)
           have HSb := hid (HS2.out _ HK2.out)
           clear hk2 HSa)
        | (go_at_call 12; (with_reducible refine HSb.out.mono ?_); rintro e w3 ⟨rfl, hk3⟩
           have HK3 := hid (HK2.out.then hk3)
           clear hk3 HSb))
      go_ret
      exact ⟨rfl, HK3.out⟩
  · have hs1' : smallA l = false := by simpa using hs1
    rw [hs1'] at HS
    clear hs1 hs1'
    go_enter Try.func3, Try.ntmps3
    go_wp2_with (first
      | (go_at_call 11; (with_reducible refine (wakes_any _).mono ?_); rintro e w1 ⟨rfl, hk1⟩
         have HK1 := hid hk1
         have HSa := hid (HS.out _ hk1)
         clear hk1)
      | (go_at_call 12; (with_reducible refine HSa.out.mono ?_); rintro e w2 ⟨rfl, hk2⟩
         have HK2 := hid (HK1.out.then hk2)
         clear hk2 HSa))
    go_ret
    exact ⟨rfl, HK2.out⟩
end Go.Proofs.Ytbellndcgagclaa

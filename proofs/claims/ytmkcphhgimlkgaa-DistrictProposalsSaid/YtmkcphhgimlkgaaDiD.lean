import Derived.Test.YtmkcphhgimlkgaaDiC
namespace Go.Proofs.Ytmkcphhgimlkgaa
open Go.RowKit

def PropPost (w : World) (mb tb sb : Nat) (A : Option Addr) (cp : Nat) (c : CF) (l : List St) (v : Int) (e : Ending) (w' : World) : Prop :=
  e = .returned (.int .i64 v) ∧ DM w' mb tb sb A cp c l ∧ Keep (· = sb) w w'
section
variable (w : World) (mb tb sb : Nat) (A : Option Addr) (cp : Nat) (c : CF) (l : List St) (hD : DM w mb tb sb A cp c l)
include hD
set_option maxRecDepth 100000 in
set_option maxHeartbeats 4000000 in
theorem proposal_any (p : Nat → Bool) (Q : Option Addr) (cq : Nat) (hp : Sl w (fun i => i = sb) 1 Q l.length (bcl l.length p)) (d : Nat) (s : St) (hs : l[d]? = some s) (ce now again : Int) (n0 : 0 ≤ now) (n1 : now ≤ 1099511627776) (a1 : again ≤ 9223372036854775807) :
    Calls Try.prog 36 #[.pointer (some ⟨mb, 0, none⟩), .int .i64 d, .int .i64 ce, .slice Q l.length cq, .int .i64 now, .int .i64 again] w
      (PropPost w mb tb sb A cp c l (propK l.length c.h3 ce now again p d s)) := by
  have hd := (List.getElem?_eq_some_iff.1 hs).1
  have h9 := hD.ok.hi
  have hlen := hD.ok.len
  have HSU := hid (fun W (hk : Same w W) => successor_any W mb tb sb A cp c l (hD.same hk) p Q cq (hp.same hk) d hd)
  obtain ⟨b, off, rfl, hb, hbs, hrow⟩ := hp.at_ (by omega)
  have HCP := hid (fun W (hk : Keep (· = sb) w W) => (hk.cell (p := ⟨b, off + d, none⟩) hb hbs).trans (hrow d _ (bcl_get p hd)))
  have hu := (hD.ok.each s (List.mem_of_getElem? hs)).2.2
  obtain ⟨u1, u2⟩ := hu
  have hdu := vL_in hD.ok.dur
  obtain ⟨l1, l2⟩ := hdu
  have t0 : w.cell? ⟨mb, 3, none⟩ = some (.pointer (some ⟨tb, 0, none⟩)) := hD.top.at_ 3
  have HT2 := hid (fun W (hk : Keep (· = sb) w W) => (hD.top.keep hk hD.ne.1).at_ 2)
  have hL := last_any w tb sb l hD.tab d
  rw [last_at hs] at hL
  have HL := hid hL
  have HRE := hid (fun W (hk : Same w W) => released_any W mb tb sb A cp c l (hD.same hk) d s hs)
  have hH := fun W (hk : DM W mb tb sb A cp c l) => home_any W mb tb sb A cp c l hk d
  have hin : inB (d : Int) c.cen = true := by simp [inB]; omega
  rw [hin] at hH
  have HH := hid hH
  have HD := hid hD
  have hd' : (d : Int) < (l.length : Int) := by omega
  unfold propK
  generalize succK p l.length d = R at *
  generalize p d = pd at *
  clear hL hH hin hp hrow hs hlen hD
  generalize c.h3 = dur at *
  by_cases g1 : s.u < now
  · rw [if_pos g1]
    by_cases g2 : ce = R
    · rw [if_pos g2]
      have g3 : (ce == R) = true := by simp [g2]
      clear g2
      go_enter Try.func36, Try.ntmps36
      go_wp2_with fail
      refine HL.out.mono ?_
      rintro e w1 ⟨rfl, hk1⟩
      have HK1 := hid hk1
      clear hk1 t0
      go_wp2_with fail
      (with_reducible refine (HSU.out w1 HK1.out).mono ?_)
      rintro e w2 ⟨rfl, rfl⟩
      go_wp2_with fail
      go_ret
      exact ⟨rfl, HD.out.same HK1.out, HK1.out.wide (fun _ _ f => f.elim)⟩
    · rw [if_neg g2]
      have g3 : (ce == R) = false := by simp [g2]
      clear g2
      go_enter Try.func36, Try.ntmps36
      go_wp2_with fail
      refine HL.out.mono ?_
      rintro e w1 ⟨rfl, hk1⟩
      have HK1 := hid hk1
      clear hk1 t0
      go_wp2_with fail
      (with_reducible refine (HSU.out w1 HK1.out).mono ?_)
      rintro e w2 ⟨rfl, rfl⟩
      go_wp2_with fail
      go_ret
      exact ⟨rfl, HD.out.same HK1.out, HK1.out.wide (fun _ _ f => f.elim)⟩
  · rw [if_neg g1]
    by_cases g2 : ce = s.h
    rotate_left 1
    · rw [if_pos (.inl g2)]
      have g3 : (ce != s.h) = true := by simp [g2]
      clear g2
      go_enter Try.func36, Try.ntmps36
      go_wp2_with fail
      refine HL.out.mono ?_
      rintro e w1 ⟨rfl, hk1⟩
      have HK1 := hid hk1
      clear hk1 t0
      go_wp2_with fail
      go_ret
      exact ⟨rfl, HD.out.same HK1.out, HK1.out.wide (fun _ _ f => f.elim)⟩
    · have g3 : (ce != s.h) = false := by simp [g2]
      cases hr : s.r
      rotate_left 1
      · rw [if_pos (.inr rfl)]
        rw [hr] at HRE
        clear g2
        go_enter Try.func36, Try.ntmps36
        go_wp2_with fail
        refine HL.out.mono ?_
        rintro e w1 ⟨rfl, hk1⟩
        have HK1 := hid hk1
        clear hk1 t0
        go_wp2_with fail
        (with_reducible refine (HRE.out w1 HK1.out).mono ?_)
        rintro e w2 ⟨rfl, hd2, hk2⟩
        have HD2 := hid hd2
        have HK2 := hid hk2
        clear hd2 hk2
        go_wp2_with fail
        go_ret
        exact ⟨rfl, HD2.out, (HK1.out.wide (fun _ _ f => f.elim)).trans HK2.out (fun _ _ e => e)⟩
      · rw [if_neg (by rintro (h | h); exact h g2; cases h)]
        rw [hr] at HRE
        clear g2
        have gm : max again 0 = if 0 ≤ again then again else 0 := by split <;> omega
        by_cases g4 : ce ≠ (d : Int) ∧ pd = false
        · rw [if_pos g4]
          obtain ⟨g4, rfl⟩ := g4
          have g5 : (ce != (d : Int)) = true := by simp [g4]
          clear g4
          go_enter Try.func36, Try.ntmps36
          go_wp2_with fail
          refine HL.out.mono ?_
          rintro e w1 ⟨rfl, hk1⟩
          have HK1 := hid hk1
          clear hk1 t0
          go_wp2_with fail
          (with_reducible refine (HRE.out w1 HK1.out).mono ?_)
          rintro e w2 ⟨rfl, hd2, hk2⟩
          have HD2 := hid hd2
          have HK2 := hid ((HK1.out.wide (fun _ _ f => f.elim)).trans hk2 (fun _ _ e => e))
          have q0 := HCP.out w2 HK2.out
          clear hd2 hk2
          go_wp2_with fail
          (with_reducible refine (HH.out w2 HD2.out).mono ?_)
          rintro e w3 ⟨rfl, rfl⟩
          go_wp2_with fail
          go_ret
          exact ⟨rfl, HD2.out, HK2.out⟩
        · rw [if_neg g4]
          have g5 : (ce = d ∧ (ce != (d : Int)) = false) ∨ (pd = true ∧ (ce != (d : Int)) = true) := by
            by_cases h : ce = d
            · exact .inl ⟨h, by simp [h]⟩
            · refine .inr ⟨?_, by simp [h]⟩
              cases pd
              · exact absurd ⟨h, rfl⟩ g4
              · rfl
          clear g4
          have g7 : (∃ v : Int, v = (if s.u < now + dur - max again 0 then (9 : Int) else 0)) := ⟨_, rfl⟩
          by_cases g6 : s.u < now + dur - max again 0
          all_goals
            (first | rw [if_pos g6] | rw [if_neg g6])
            by_cases g8 : 0 ≤ again
            all_goals
              (first | rw [if_pos g8] at gm | rw [if_neg g8] at gm)
              rw [gm] at g6
              clear gm g7
              rcases g5 with ⟨-, g5⟩ | ⟨rfl, g5⟩
              all_goals
                go_enter Try.func36, Try.ntmps36
                go_wp2_with fail
                refine HL.out.mono ?_
                rintro e w1 ⟨rfl, hk1⟩
                have HK1 := hid hk1
                clear hk1 t0
                go_wp2_with fail
                (with_reducible refine (HRE.out w1 HK1.out).mono ?_)
                rintro e w2 ⟨rfl, hd2, hk2⟩
                have HD2 := hid hd2
                have HK2 := hid ((HK1.out.wide (fun _ _ f => f.elim)).trans hk2 (fun _ _ e => e))
                have q0 := HCP.out w2 HK2.out
                have q1 := HT2.out w2 HK2.out
                clear hd2 hk2
                go_wp2_with fail
                (with_reducible refine (HH.out w2 HD2.out).mono ?_)
                rintro e w3 ⟨rfl, rfl⟩
                go_wp2_with fail
                go_ret
                exact ⟨rfl, HD2.out, HK2.out⟩
end
end Go.Proofs.Ytmkcphhgimlkgaa

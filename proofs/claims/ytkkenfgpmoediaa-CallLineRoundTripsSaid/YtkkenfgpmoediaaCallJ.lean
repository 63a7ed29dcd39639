import Derived.Test.YtkkenfgpmoediaaCallI
import Derived.Deep.Cut
namespace Go.Proofs.Ytkkenfgpmoediaa
open Go.RowKit

/-! ## Both lines over a sequence of operations -/
def lin0 : CL := ⟨3, 1, 4, -1, 0, ⟨#[]⟩, 0, []⟩
theorem lin0_ok : OkL lin0 := ⟨⟨by decide, by decide⟩, ⟨by decide, by decide⟩, ⟨by decide, by decide⟩, ⟨by decide, by decide⟩, ⟨by decide, by decide⟩, by decide, ⟨by decide, by decide⟩, by decide, by simp [lin0]⟩
def runS (l : List LA) : CL := l.foldl stepS lin0
def runM (l : List LA) : CL := l.foldl stepM lin0
theorem runS_snoc (l : List LA) (a : LA) : runS (l ++ [a]) = stepS (runS l) a := by simp [runS]
theorem runM_snoc (l : List LA) (a : LA) : runM (l ++ [a]) = stepM (runM l) a := by simp [runM]
theorem foldS_ok : ∀ (l : List LA) (s : CL), OkL s → OkL (l.foldl stepS s)
  | [], _, h => h
  | a :: l, s, h => foldS_ok l _ ((step_kept s a).ok h)
theorem runS_ok (l : List LA) : OkL (runS l) := foldS_ok l _ lin0_ok
theorem foldM_len : ∀ (l : List LA) (s : CL), s.ans.length ≤ 200 → (l.foldl stepM s).ans.length ≤ 200
  | [], _, h => h
  | a :: l, s, h => foldM_len l _ (stepM_len s a h)
theorem runM_len (l : List LA) : (runM l).ans.length ≤ 200 := foldM_len l _ (by decide)
def LM (w w1 : World) (lb mb : Nat) (s m : CL) : Prop := ∃ (r : Option Nat) (A : Option Addr) (c : Nat) (B : Option Addr) (d : Nat), LineAt w1 lb r A c s ∧ Blk w1 mb 31 (m.cells B d).toArray ∧ Sl w1 (fun i => (i = lb ∨ some i = r) ∨ i = mb) 1 B m.ans.length (icells m.ans) ∧ Same w w1 ∧
  w.heap.size ≤ lb ∧ w.heap.size ≤ mb ∧ mb ≠ lb ∧ ∀ g, r = some g → w.heap.size ≤ g ∧ g ≠ mb
section
variable {w w1 w2 : World} {lb mb : Nat} {s m : CL}
theorem LM.line (h : LM w w1 lb mb s m) : LS w w1 lb s := by
  obtain ⟨r, A, c, B, d, h1, h2, h3, h4, h5, h6, h7, h8⟩ := h
  exact ⟨r, A, c, h1, h4, h5, fun g e => (h8 g e).1⟩
theorem LM.same (h : LM w w1 lb mb s m) (hk : Same w1 w2) : LM w w2 lb mb s m := by
  obtain ⟨r, A, c, B, d, h1, h2, h3, h4, h5, h6, h7, h8⟩ := h
  exact ⟨r, A, c, B, d, h1.same hk, h2.keep hk (fun f => f), h3.same hk, h4.then hk, h5, h6, h7, h8⟩
end
set_option maxHeartbeats 16000000 in
set_option maxRecDepth 100000 in
theorem stale_walk (w : World) (X : Option Addr) (N cX : Nat) (L : List LA) (hAC : Sl w (fun _ => False) 6 X N (actCells L)) (hN : N ≤ maxLen) (ep kd : Int) (hk0 : 0 ≤ kd) (hk255 : kd ≤ 255) :
    Calls Try.prog 4 #[.slice X N cX, .int .i64 ep, .int .u8 kd] w fun e w' => e = .returned (.bool true) ∧ Same w w' := by
  have HN := hid (acts_len hAC)
  have HSM := hid (fun W (hk : Same w W) => small_any W X N cX L (hAC.same hk) hN)
  have HAC := hid (fun W (hk : Same w W) => hAC.same hk)
  have HAL := hid (alive_any w)
  have hN' : N ≤ 9223372036854775807 := by unfold maxLen at hN; omega
  clear hAC hN
  by_cases hsm : smallL L = true
  · rw [hsm] at HSM
    go_enter Try.func4, Try.ntmps4
    go_wp2_with fail
    refine HAL.out.mono ?_
    rintro e w1 ⟨rfl, hk1⟩
    have HK1 := hid hk1
    have HSM1 := hid (HSM.out w1 hk1)
    clear hk1 HAL HSM
    go_wp2_with fail
    refine HSM1.out.mono ?_
    rintro e w2 ⟨rfl, hk2⟩
    have HK2 := hid (HK1.out.then hk2)
    clear hk2 HSM1
    go_wp2_with fail
    refine (new_any w2 3 4 (by decide) (by decide)).mono ?_
    rintro e w3 ⟨rfl, hl3, hk3⟩
    have HL3 := hid hl3
    have HK3 := hid (HK2.out.then hk3)
    have hlb0 := HK2.out.size
    have hlb3 := hl3.top.lt
    generalize hlb : w2.heap.size = lb at *
    clear hl3 hk3
    go_wp2_with fail
    refine (newRef_any w3 3 4 (by decide) (by decide)).mono ?_
    rintro e w4 ⟨rfl, hk4⟩
    have HL4 := hid (HL3.out.same hk4)
    have HK4 := hid (HK3.out.then hk4)
    have hz4 := hk4.size
    simp only [CL.cells]
    have hka : Same w4 (w4.alloc (.cells #[.int .i64 3, .int .i64 1, .int .i64 4, .int .i64 (-1), .int .i64 0, .string ⟨#[]⟩, .int .i64 0, .slice none 0 0] 31)) := (Keep.refl _ w4).alloc _
    have HI0 : Hid (LM w (w4.alloc (.cells #[.int .i64 3, .int .i64 1, .int .i64 4, .int .i64 (-1), .int .i64 0, .string ⟨#[]⟩, .int .i64 0, .slice none 0 0] 31)) lb w4.heap.size (runS (L.take 0)) (runM (L.take 0))) :=
      hid ⟨none, none, 0, none, 0, HL4.out.same hka, Blk.made w4 31 _, Sl.nil _ _ _ _, HK4.out.then hka, hlb0, by have := HK4.out.size; omega, by omega, fun g e => by cases e⟩
    clear hk4 hka HL3 HL4
    go_wp2_with fail
    generalize w4.heap.size = mb at *
    go_loopw [34] (fun i wr => ∃ k : Nat, k ≤ N ∧ i = .int .i64 k ∧ Hid (LM w wr lb mb (runS (L.take k)) (runM (L.take k)))) (fun i _ => N - (RowKit.intOf i).toNat)
    case atStart => exact ⟨0, by omega, rfl, HI0⟩
    case round =>
      obtain ⟨k, hk, rfl, HI⟩ := hrel
      by_cases hlt : k < N
      · obtain ⟨a, ha⟩ := get_some (l := L) (k := k) (by have := HN.out; omega)
        have HSN := hid (show runS (L.take (k + 1)) = stepS (runS (L.take k)) a by rw [take_snoc ha, runS_snoc])
        have HMN := hid (show runM (L.take (k + 1)) = stepM (runM (L.take k)) a by rw [take_snoc ha, runM_snoc])
        have hml := runM_len (L.take k)
        obtain ⟨r, A, c, B, d, hL, hB, hM, hK, g5, g6, g7, g8⟩ := HI.out
        obtain ⟨b, off, rfl, hb, q0, q1, q2, q3, q4, q5⟩ := acts_at (HAC.out wr hK) ha
        generalize runS (L.take k) = s at *
        generalize runM (L.take k) = m at *
        have hka : Same wr (wr.alloc (.cells #[.int .i64 a.k, .int .i64 a.cen, .int .i64 a.n, .int .i64 a.ep, .int .i64 a.tk, .string a.tree] 35)) := (Keep.refl _ wr).alloc _
        have hmb := hB.lt
        have hD := does_any (fun i => i = mb) (wr.alloc (.cells #[.int .i64 a.k, .int .i64 a.cen, .int .i64 a.n, .int .i64 a.ep, .int .i64 a.tk, .string a.tree] 35)) (fun i hi => by simp only [World.size_alloc]; omega) lb r A c s (hL.same hka) m B d (hM.same hka) (by omega) a
        have HBa := hid (hB.keep hka (fun f => f))
        have HKa := hid (hK.then hka)
        have hlb := hL.top.lt
        have HRL := hid hL.lt
        have HG8 := hid g8
        obtain ⟨ocall, ost, osince, ocen, oep, oname, over, oans⟩ := m
        obtain ⟨ak, acen, an, aep, atk, atree⟩ := a
        simp only [CL.cells, LA.cells] at hD
        generalize hsn : stepS s ⟨ak, acen, an, aep, atk, atree⟩ = s' at *
        generalize hmn : stepM ⟨ocall, ost, osince, ocen, oep, oname, over, oans⟩ ⟨ak, acen, an, aep, atk, atree⟩ = m' at *
        generalize (stepE s ⟨ak, acen, an, aep, atk, atree⟩ == stepE ⟨ocall, ost, osince, ocen, oep, oname, over, oans⟩ ⟨ak, acen, an, aep, atk, atree⟩) = bb at *
        simp only at q0 q1 q2 q3 q4 q5
        have HD := hid hD
        have hk1 : (k : Int) < (N : Int) := by omega
        have hk2 : (k : Int) + 1 ≤ 9223372036854775807 := by omega
        clear hD g8 hsn hmn ha
        have z0 := hB.at_ 0
        have z1 := hB.at_ 1
        have z2 := hB.at_ 2
        have z3 := hB.at_ 3
        have z4 := hB.at_ 4
        have z5 := hB.at_ 5
        have z6 := hB.at_ 6
        have z7 := hB.at_ 7
        simp [CL.cells] at z0 z1 z2 z3 z4 z5 z6 z7
        clear hL hB hM hK hka HI
        go_wp2_with fail
        refine HD.out.mono ?_
        rintro e w2 hD2
        obtain ⟨r2, A2, c2, B2, d2, he, hL2, hS2, hK2, hg2⟩ := hD2
        subst he
        obtain ⟨mcall, mst, msince, mcen, mep, mname, mver, mans⟩ := m'
        simp only [CL.cells]
        simp only at hS2
        have hmr : ¬ (mb = lb ∨ some mb = r) := fun e => by
          rcases e with e | e
          · exact g7 e
          · exact (HG8.out mb e.symm).2 rfl
        have hb2 := HBa.out.keep hK2 hmr
        simp only [CL.cells] at hb2
        have HB2 := hid hb2
        have hKw : Same w w2 := HKa.out.trans hK2 (fun i hi e => by
          rcases e with e | e
          · omega
          · have := (HG8.out i e.symm).1; omega)
        have HKw := hid hKw
        have HS2 := hid hS2
        have HL2 := hid hL2
        have HG2 := hid (show ∀ g, r2 = some g → w.heap.size ≤ g ∧ g ≠ mb from fun g e => by
          rcases hg2 g e with e2 | e2
          · exact HG8.out g e2
          · have := HKw.out.size
            simp only [World.size_alloc] at e2
            have := HKa.out.size
            simp only [World.size_alloc] at this
            exact ⟨by omega, by omega⟩)
        have hmb2 := hb2.lt
        have p0 := hb2.at_ 0
        have f0 := hb2.free 0
        have p1 := hb2.at_ 1
        have f1 := hb2.free 1
        have p2 := hb2.at_ 2
        have f2 := hb2.free 2
        have p3 := hb2.at_ 3
        have f3 := hb2.free 3
        have p4 := hb2.at_ 4
        have f4 := hb2.free 4
        have p5 := hb2.at_ 5
        have f5 := hb2.free 5
        have p6 := hb2.at_ 6
        have f6 := hb2.free 6
        have p7 := hb2.at_ 7
        have f7 := hb2.free 7
        simp at p0 p1 p2 p3 p4 p5 p6 p7
        clear hb2 hKw hS2 hL2 hg2 hK2 z0 z1 z2 z3 z4 z5 z6 z7 HBa HKa hmr
        go_upto_region 13 with fail
        have hkA := (((((((((Keep.refl (· = mb) w2).put 0 (.int .i64 mcall)).put 1 (.int .i64 mst)).put 2 (.int .i64 msince)).put 3 (.int .i64 mcen)).put 4 (.int .i64 mep)).put 5 (.string mname)).put 6 (.int .i64 mver)).put 7 (.slice B2 mans.length d2))
        have hrA := ((((((((HB2.out.put 0 (.int .i64 mcall)).put 1 (.int .i64 mst)).put 2 (.int .i64 msince)).put 3 (.int .i64 mcen)).put 4 (.int .i64 mep)).put 5 (.string mname)).put 6 (.int .i64 mver)).put 7 (.slice B2 mans.length d2))
        generalize ((((((((w2.setCell ⟨mb, 0, none⟩ (.int .i64 mcall)).setCell ⟨mb, 1, none⟩ (.int .i64 mst)).setCell ⟨mb, 2, none⟩ (.int .i64 msince)).setCell ⟨mb, 3, none⟩ (.int .i64 mcen)).setCell ⟨mb, 4, none⟩ (.int .i64 mep)).setCell ⟨mb, 5, none⟩ (.string mname)).setCell ⟨mb, 6, none⟩ (.int .i64 mver)).setCell ⟨mb, 7, none⟩ (.slice B2 mans.length d2)) = wA at *
        have HIA : Hid (LM w wA lb mb s' ⟨mcall, mst, msince, mcen, mep, mname, mver, mans⟩) := hid ⟨r2, A2, c2, B2, d2, HL2.out.keep hkA (fun e => g7 e.symm) (fun g e h => (HG2.out g e).2 h), hrA, HS2.out.keep hkA (fun i _ e => .inr e) |>.wide (fun _ _ e => e), HKw.out.trans hkA (fun i hi e => by omega), g5, g6, g7, HG2.out⟩
        clear hkA hrA HS2 HL2 HKw HB2 HG2 p0 p1 p2 p3 p4 p5 p6 p7 f0 f1 f2 f3 f4 f5 f6 f7
        go_wp2_with fail
        go_roundw
        case rel =>
          repeat apply Exists.intro
          refine And.intro ?_ rfl
          exact ⟨k + 1, by omega, by go_num, by rw [HSN.out, HMN.out]; exact HIA⟩
        case measure => simp [RowKit.intOf]; omega
      · have e1 : L.take k = L := List.take_of_length_le (by have := HN.out; omega)
        rw [e1] at HI
        have hok := hid (runS_ok L)
        generalize runS L = s at *
        generalize runM L = m at *
        clear e1
        have HLS := hid HI.out.line
        go_wp2_with fail
        refine HLS.out.owner.mono ?_
        rintro e w5 ⟨rfl, hk5⟩
        have HL5 := hid (HLS.out.same hk5)
        have HK5 := hid HL5.out.kept
        clear hk5
        by_cases he : ep = s.ep
        · have hee : (ep == s.ep) = true := by simpa using he
          go_wp2_with fail
          go_ret
          exact ⟨rfl, HK5.out⟩
        · have hee : (ep == s.ep) = false := by simpa using he
          by_cases h1 : ep < 1
          · go_wp2_with fail
            go_ret
            exact ⟨rfl, HK5.out⟩
          · by_cases h2 : 1099511627776 < ep
            · go_wp2_with fail
              go_ret
              exact ⟨rfl, HK5.out⟩
            · have HMA := hid (HL5.out.marshal hok.out)
              have HA1 := hid (stale_accept (s := s) (nm := mainS) (v := 1) (show 1 ≤ ep by omega) (by omega) he (by decide))
              have HA2 := hid (stale_back (s := s) (show 1 ≤ ep by omega) (by omega) he)
              have HA3 := hid (stale_close (s := s) (show 1 ≤ ep by omega) (by omega) he)
              have hr3 : kd % 3 = 0 ∨ kd % 3 = 1 ∨ kd % 3 = 2 := by omega
              go_wp2_with (first
                | (go_at_call 12; (with_reducible refine HM7.out.mono ?_); rintro e w8 ⟨g8, rfl, hg8, hb8, hk8⟩
                   have hcv8 := conv_str w8 (fun _ => False) (some ⟨g8, 0, none⟩) (encCL s).length (encCL s).length (encCL s) (Sl.of_blk hb8 (by simp) (fun f => f))
                   have HK8 := hid (HL7.out.kept.then hk8)
                   clear hb8 hk8)
                | (go_at_call 12; (with_reducible refine HMA.out.mono ?_); rintro e w6 ⟨g6', rfl, hg6, hb6, hk6⟩
                   have hcv6 := conv_str w6 (fun _ => False) (some ⟨g6', 0, none⟩) (encCL s).length (encCL s).length (encCL s) (Sl.of_blk hb6 (by simp) (fun f => f))
                   have HL6 := hid (HL5.out.same hk6)
                   clear hb6 hk6)
                | (go_at_call 15; refine (LS.op (s' := s) HL6.out (fun r A c h => by have := accept_any _ _ r A c _ h ep mainS 1; rwa [HA1.out.1, HA1.out.2] at this)).mono ?_; rintro e w7 ⟨rfl, hl7⟩
                   have HL7 := hid hl7
                   have HM7 := hid (hl7.marshal hok.out)
                   clear hl7)
                | (go_at_call 16; refine (LS.op (s' := s) HL6.out (fun r A c h => by have := back_any _ _ r A c _ h ep; rwa [HA2.out.1, HA2.out.2] at this)).mono ?_; rintro e w7 ⟨rfl, hl7⟩
                   have HL7 := hid hl7
                   have HM7 := hid (hl7.marshal hok.out)
                   clear hl7)
                | (go_at_call 17; refine (LS.op (s' := s) HL6.out (fun r A c h => by have := close_any _ _ r A c _ h ep; rwa [HA3.out.1, HA3.out.2] at this)).mono ?_; rintro e w7 ⟨rfl, hl7⟩
                   have HL7 := hid hl7
                   have HM7 := hid (hl7.marshal hok.out)
                   clear hl7))
              all_goals
                go_ret
                exact ⟨rfl, HK8.out⟩
  · have hsm' : smallL L = false := by simpa using hsm
    rw [hsm'] at HSM
    go_enter Try.func4, Try.ntmps4
    go_wp2_with fail
    refine HAL.out.mono ?_
    rintro e w1 ⟨rfl, hk1⟩
    have HSM1 := hid (HSM.out w1 hk1)
    have HK1 := hid hk1
    clear hk1
    go_wp2_with fail
    refine HSM1.out.mono ?_
    rintro e w2 ⟨rfl, hk2⟩
    go_wp2_with fail
    go_ret
    exact ⟨rfl, HK1.out.then hk2⟩
end Go.Proofs.Ytkkenfgpmoediaa

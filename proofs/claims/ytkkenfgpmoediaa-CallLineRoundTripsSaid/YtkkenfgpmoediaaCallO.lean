import Derived.Test.YtkkenfgpmoediaaCallN
import Derived.Deep.RegionHeld3
namespace Go.Proofs.Ytkkenfgpmoediaa
open Go.RowKit

theorem takeO {P : Program} {md : Region.Mode} {ops : Array Oper} {Q : Exit → Act → World → Prop} {S : World → Prop} {i : Nat} {oi : Oper} {v : Value} {fuel : Nat} {listed : Array Bool} {a : Act} {w : World}
    (hs : Region.noSelect ops = true) (hf : Region.free md ops listed i = true) (hr : (Region.ready md ops listed).contains i = true) (hQ : ∀ c a d v w, Q (.panic c) (Act.put a d v) w → Q (.panic c) a w) (hi : ops[i]? = some oi) (hy : YieldsIf P ops S oi v a) (hS : S w)
    (h : wpAnyH P md ops Q S fuel (listed.setIfInBounds i true) (a.put oi.dst v) w) : wpAnyH P md ops Q S (fuel + 1) listed a w := wpAnyH_take hi hs hf hr (fun c a w h => hQ c a _ _ w h) hy hS h
theorem wpAnyH_weak {P : Program} {md : Region.Mode} {ops : Array Oper} {Q : Exit → Act → World → Prop} {S S' : World → Prop} (h : ∀ w, S' w → S w) : ∀ (fuel : Nat) (listed : Array Bool) (a : Act) (w : World), wpAnyH P md ops Q S' fuel listed a w → wpAnyH P md ops Q S fuel listed a w := by
  intro fuel
  induction fuel with
  | zero => intro _ _ _ hh; exact hh
  | succ n ih => intro _ _ _ hh; exact ⟨hh.1, fun i hi => wpOp_mono (fun a' w' h' => ⟨h w' h'.1, ih _ a' w' h'.2⟩) (hh.2 i hi)⟩

/-! ## RoundTrips -/
theorem foldBut : ∀ (l : List LA) (s m : CL), But s m → But (l.foldl stepS s) (l.foldl stepM m)
  | [], _, _, h => h
  | a :: l, _, _, h => foldBut l _ _ (h.step a)
theorem runBut (l : List LA) : But (runS l) (runM l) := foldBut l _ _ (But.refl _)
def LM2 (w w1 : World) (lb lb2 mb : Nat) (s m : CL) : Prop := ∃ (r : Option Nat) (A : Option Addr) (c : Nat) (r2 : Option Nat) (A2 : Option Addr) (c2 : Nat) (B : Option Addr) (d : Nat), LineAt w1 lb r A c s ∧ LineAt w1 lb2 r2 A2 c2 s ∧ Blk w1 mb 31 (m.cells B d).toArray ∧
  Sl w1 (fun i => (i = lb ∨ some i = r) ∨ ((i = lb2 ∨ some i = r2) ∨ i = mb)) 1 B m.ans.length (icells m.ans) ∧ Same w w1 ∧ (w.heap.size ≤ lb ∧ w.heap.size ≤ lb2 ∧ w.heap.size ≤ mb) ∧ (mb ≠ lb ∧ mb ≠ lb2 ∧ lb ≠ lb2) ∧
  (∀ g, r = some g → w.heap.size ≤ g ∧ g ≠ mb ∧ g ≠ lb2) ∧ (∀ g, r2 = some g → w.heap.size ≤ g ∧ g ≠ mb ∧ g ≠ lb ∧ ¬ r = some g)
set_option maxHeartbeats 16000000 in
set_option maxRecDepth 100000 in
theorem round_walk (w : World) (X : Option Addr) (N cX : Nat) (L : List LA) (hAC : Sl w (fun _ => False) 6 X N (actCells L)) (hN : N ≤ maxLen) (X2 : Option Addr) (N2 cX2 : Nat) (L2 : List LA) (hAC2 : Sl w (fun _ => False) 6 X2 N2 (actCells L2)) (hN2 : N2 ≤ maxLen) :
    Calls Try.prog 5 #[.slice X N cX, .slice X2 N2 cX2] w fun e w' => e = .returned (.bool true) ∧ Same w w' := by
  have HN := hid (acts_len hAC)
  have HSM := hid (fun W (hk : Same w W) => small_any W X N cX L (hAC.same hk) hN)
  have HAC := hid (fun W (hk : Same w W) => hAC.same hk)
  have HAL := hid (alive_any w)
  have HN2 := hid (acts_len hAC2)
  have HSM2 := hid (fun W (hk : Same w W) => small_any W X2 N2 cX2 L2 (hAC2.same hk) hN2)
  have HAC2 := hid (fun W (hk : Same w W) => hAC2.same hk)
  have hN2' : N2 ≤ 9223372036854775807 := by unfold maxLen at hN2; omega
  have hN' : N ≤ 9223372036854775807 := by unfold maxLen at hN; omega
  have HNm2 := hid hN2
  clear hAC hN hAC2 hN2
  by_cases hsm : smallL L = true
  · rw [hsm] at HSM
    by_cases hsmb : smallL L2 = true
    rotate_left 1
    · have hsmb' : smallL L2 = false := by simpa using hsmb
      rw [hsmb'] at HSM2
      go_enter Try.func5, Try.ntmps5
      go_wp2_with fail
      refine HAL.out.mono ?_
      rintro e w1 ⟨rfl, hk1⟩
      have HSM1 := hid (HSM.out w1 hk1)
      have HK1 := hid hk1
      clear hk1
      go_wp2_with fail
      refine HSM1.out.mono ?_
      rintro e w2 ⟨rfl, hk2⟩
      have HK2 := hid (HK1.out.then hk2)
      have HSMb := hid (HSM2.out w2 HK2.out)
      clear hk2
      go_wp2_with fail
      refine HSMb.out.mono ?_
      rintro e w3 ⟨rfl, hk3⟩
      go_wp2_with fail
      go_ret
      exact ⟨rfl, HK2.out.then hk3⟩
    rw [hsmb] at HSM2
    go_enter Try.func5, Try.ntmps5
    go_wp2_with fail
    refine HAL.out.mono ?_
    rintro e w1 ⟨rfl, hk1⟩
    have HK1 := hid hk1
    have HSM1 := hid (HSM.out w1 hk1)
    clear hk1 HAL HSM
    go_wp2_with fail
    refine HSM1.out.mono ?_
    rintro e w2a ⟨rfl, hk2⟩
    have HK2a := hid (HK1.out.then hk2)
    have HSMb := hid (HSM2.out w2a HK2a.out)
    clear hk2 HSM1 HSM2
    go_wp2_with fail
    refine HSMb.out.mono ?_
    rintro e w2 ⟨rfl, hk2⟩
    have HK2 := hid (HK2a.out.then hk2)
    clear hk2 HSMb
    go_wp2_with fail
    refine (new_any w2 3 4 (by decide) (by decide)).mono ?_
    rintro e w3 ⟨rfl, hl3, hk3⟩
    have HL3 := hid hl3
    have HK3 := hid (HK2.out.then hk3)
    have hlb0 := HK2.out.size
    have hlb3 := hl3.top.lt
    generalize hlb : w2.heap.size = lb at *
    clear hl3 hk3
    go_wp2_with fail
    refine (newRef_any w3 3 4 (by decide) (by decide)).mono ?_
    rintro e w4 ⟨rfl, hk4⟩
    have HL4 := hid (HL3.out.same hk4)
    have HK4 := hid (HK3.out.then hk4)
    have hz4 := hk4.size
    simp only [CL.cells]
    have hka : Same w4 (w4.alloc (.cells #[.int .i64 3, .int .i64 1, .int .i64 4, .int .i64 (-1), .int .i64 0, .string ⟨#[]⟩, .int .i64 0, .slice none 0 0] 31)) := (Keep.refl _ w4).alloc _
    have HI0 : Hid (LM w (w4.alloc (.cells #[.int .i64 3, .int .i64 1, .int .i64 4, .int .i64 (-1), .int .i64 0, .string ⟨#[]⟩, .int .i64 0, .slice none 0 0] 31)) lb w4.heap.size (runS (L.take 0)) (runM (L.take 0))) :=
      hid ⟨none, none, 0, none, 0, HL4.out.same hka, Blk.made w4 31 _, Sl.nil _ _ _ _, HK4.out.then hka, hlb0, by have := HK4.out.size; omega, by omega, fun g e => by cases e⟩
    clear hk4 hka HL3 HL4
    go_wp2_with fail
    generalize w4.heap.size = mb at *
    go_loopw [41] (fun i wr => ∃ k : Nat, k ≤ N ∧ i = .int .i64 k ∧ Hid (LM w wr lb mb (runS (L.take k)) (runM (L.take k)))) (fun i _ => N - (RowKit.intOf i).toNat)
    case atStart => exact ⟨0, by omega, rfl, HI0⟩
    case round =>
      obtain ⟨k, hk, rfl, HI⟩ := hrel
      by_cases hlt : k < N
      · obtain ⟨a, ha⟩ := get_some (l := L) (k := k) (by have := HN.out; omega)
        have HSN := hid (show runS (L.take (k + 1)) = stepS (runS (L.take k)) a by rw [take_snoc ha, runS_snoc])
        have HMN := hid (show runM (L.take (k + 1)) = stepM (runM (L.take k)) a by rw [take_snoc ha, runM_snoc])
        have hml := runM_len (L.take k)
        obtain ⟨r, A, c, B, d, hL, hB, hM, hK, g5, g6, g7, g8⟩ := HI.out
        obtain ⟨b, off, rfl, hb, q0, q1, q2, q3, q4, q5⟩ := acts_at (HAC.out wr hK) ha
        generalize runS (L.take k) = s at *
        generalize runM (L.take k) = m at *
        have hka : Same wr (wr.alloc (.cells #[.int .i64 a.k, .int .i64 a.cen, .int .i64 a.n, .int .i64 a.ep, .int .i64 a.tk, .string a.tree] 35)) := (Keep.refl _ wr).alloc _
        have hmb := hB.lt
        have hD := does_any (fun i => i = mb) (wr.alloc (.cells #[.int .i64 a.k, .int .i64 a.cen, .int .i64 a.n, .int .i64 a.ep, .int .i64 a.tk, .string a.tree] 35)) (fun i hi => by simp only [World.size_alloc]; omega) lb r A c s (hL.same hka) m B d (hM.same hka) (by omega) a
        have HBa := hid (hB.keep hka (fun f => f))
        have HKa := hid (hK.then hka)
        have hlb := hL.top.lt
        have HRL := hid hL.lt
        have HG8 := hid g8
        obtain ⟨ocall, ost, osince, ocen, oep, oname, over, oans⟩ := m
        obtain ⟨ak, acen, an, aep, atk, atree⟩ := a
        simp only [CL.cells, LA.cells] at hD
        generalize hsn : stepS s ⟨ak, acen, an, aep, atk, atree⟩ = s' at *
        generalize hmn : stepM ⟨ocall, ost, osince, ocen, oep, oname, over, oans⟩ ⟨ak, acen, an, aep, atk, atree⟩ = m' at *
        generalize (stepE s ⟨ak, acen, an, aep, atk, atree⟩ == stepE ⟨ocall, ost, osince, ocen, oep, oname, over, oans⟩ ⟨ak, acen, an, aep, atk, atree⟩) = bb at *
        simp only at q0 q1 q2 q3 q4 q5
        have HD := hid hD
        have hk1 : (k : Int) < (N : Int) := by omega
        have hk2 : (k : Int) + 1 ≤ 9223372036854775807 := by omega
        clear hD g8 hsn hmn ha
        have z0 := hB.at_ 0
        have z1 := hB.at_ 1
        have z2 := hB.at_ 2
        have z3 := hB.at_ 3
        have z4 := hB.at_ 4
        have z5 := hB.at_ 5
        have z6 := hB.at_ 6
        have z7 := hB.at_ 7
        simp [CL.cells] at z0 z1 z2 z3 z4 z5 z6 z7
        clear hL hB hM hK hka HI
        go_wp2_with fail
        refine HD.out.mono ?_
        rintro e w2 hD2
        obtain ⟨r2, A2, c2, B2, d2, he, hL2, hS2, hK2, hg2⟩ := hD2
        subst he
        obtain ⟨mcall, mst, msince, mcen, mep, mname, mver, mans⟩ := m'
        simp only [CL.cells]
        simp only at hS2
        have hmr : ¬ (mb = lb ∨ some mb = r) := fun e => by
          rcases e with e | e
          · exact g7 e
          · exact (HG8.out mb e.symm).2 rfl
        have hb2 := HBa.out.keep hK2 hmr
        simp only [CL.cells] at hb2
        have HB2 := hid hb2
        have hKw : Same w w2 := HKa.out.trans hK2 (fun i hi e => by
          rcases e with e | e
          · omega
          · have := (HG8.out i e.symm).1; omega)
        have HKw := hid hKw
        have HS2 := hid hS2
        have HL2 := hid hL2
        have HG2 := hid (show ∀ g, r2 = some g → w.heap.size ≤ g ∧ g ≠ mb from fun g e => by
          rcases hg2 g e with e2 | e2
          · exact HG8.out g e2
          · have := HKw.out.size
            simp only [World.size_alloc] at e2
            have := HKa.out.size
            simp only [World.size_alloc] at this
            exact ⟨by omega, by omega⟩)
        have hmb2 := hb2.lt
        have p0 := hb2.at_ 0
        have f0 := hb2.free 0
        have p1 := hb2.at_ 1
        have f1 := hb2.free 1
        have p2 := hb2.at_ 2
        have f2 := hb2.free 2
        have p3 := hb2.at_ 3
        have f3 := hb2.free 3
        have p4 := hb2.at_ 4
        have f4 := hb2.free 4
        have p5 := hb2.at_ 5
        have f5 := hb2.free 5
        have p6 := hb2.at_ 6
        have f6 := hb2.free 6
        have p7 := hb2.at_ 7
        have f7 := hb2.free 7
        simp at p0 p1 p2 p3 p4 p5 p6 p7
        clear hb2 hKw hS2 hL2 hg2 hK2 z0 z1 z2 z3 z4 z5 z6 z7 HBa HKa hmr
        go_upto_region 13 with fail
        have hkA := (((((((((Keep.refl (· = mb) w2).put 0 (.int .i64 mcall)).put 1 (.int .i64 mst)).put 2 (.int .i64 msince)).put 3 (.int .i64 mcen)).put 4 (.int .i64 mep)).put 5 (.string mname)).put 6 (.int .i64 mver)).put 7 (.slice B2 mans.length d2))
        have hrA := ((((((((HB2.out.put 0 (.int .i64 mcall)).put 1 (.int .i64 mst)).put 2 (.int .i64 msince)).put 3 (.int .i64 mcen)).put 4 (.int .i64 mep)).put 5 (.string mname)).put 6 (.int .i64 mver)).put 7 (.slice B2 mans.length d2))
        generalize ((((((((w2.setCell ⟨mb, 0, none⟩ (.int .i64 mcall)).setCell ⟨mb, 1, none⟩ (.int .i64 mst)).setCell ⟨mb, 2, none⟩ (.int .i64 msince)).setCell ⟨mb, 3, none⟩ (.int .i64 mcen)).setCell ⟨mb, 4, none⟩ (.int .i64 mep)).setCell ⟨mb, 5, none⟩ (.string mname)).setCell ⟨mb, 6, none⟩ (.int .i64 mver)).setCell ⟨mb, 7, none⟩ (.slice B2 mans.length d2)) = wA at *
        have HIA : Hid (LM w wA lb mb s' ⟨mcall, mst, msince, mcen, mep, mname, mver, mans⟩) := hid ⟨r2, A2, c2, B2, d2, HL2.out.keep hkA (fun e => g7 e.symm) (fun g e h => (HG2.out g e).2 h), hrA, HS2.out.keep hkA (fun i _ e => .inr e) |>.wide (fun _ _ e => e), HKw.out.trans hkA (fun i hi e => by omega), g5, g6, g7, HG2.out⟩
        clear hkA hrA HS2 HL2 HKw HB2 HG2 p0 p1 p2 p3 p4 p5 p6 p7 f0 f1 f2 f3 f4 f5 f6 f7
        go_wp2_with fail
        go_roundw
        case rel =>
          repeat apply Exists.intro
          refine And.intro ?_ rfl
          exact ⟨k + 1, by omega, by go_num, by rw [HSN.out, HMN.out]; exact HIA⟩
        case measure => simp [RowKit.intOf]; omega
      · have e1 : L.take k = L := List.take_of_length_le (by have := HN.out; omega)
        rw [e1] at HI
        have hbt := runBut L
        have hvl := hid (runS_vl L)
        have hmlen := runM_len L
        have hok := hid (runS_ok L)
        generalize runS L = s at *
        generalize runM L = m at *
        have HLS := hid HI.out.line
        have HBT := hid hbt
        clear e1 hbt
        go_wp2_with fail
        refine (HLS.out.marshal hok.out).mono ?_
        rintro e w5 ⟨g5, rfl, hg5, hb5, hk5⟩
        have HU := hid (unmarshal_any w5 (fun _ => False) (some ⟨g5, 0, none⟩) (encCL s).length (encCL s).length s (Sl.of_blk hb5 (by simp [bcells]) (fun f => f)) hok.out hvl.out)
        have HK5 := hid hk5
        clear hb5 hk5
        go_wp2_with fail
        refine HU.out.mono ?_
        rintro e w6 ⟨lb2, rfl, hl6⟩
        have HI2 : Hid (LM2 w w6 lb lb2 mb s m ∧ OkL s ∧ But s m ∧ m.ans.length ≤ 200) := hid (by
          obtain ⟨r, A, c, B, d, h1, h2, h3, h4, h5, h6, h7, h8⟩ := HI.out.same HK5.out
          obtain ⟨r2, A2, c2, y1, y2, y3, y4⟩ := hl6
          have b1 := h1.top.lt
          have b2 := h2.lt
          have b3 := h1.lt
          refine ⟨⟨r, A, c, r2, A2, c2, B, d, h1.same y2, y1, h2.keep y2 (fun f => f), (h3.wide (Av' := fun i => (i = lb ∨ some i = r) ∨ ((i = lb2 ∨ some i = r2) ∨ i = mb)) (fun i hi e => ?_)).same y2, h4.then y2, ⟨h5, ?_, h6⟩, ⟨h7, by omega, by omega⟩, fun g e => ⟨(h8 g e).1, (h8 g e).2, by have := b3 g e; omega⟩, fun g e => ⟨?_, ?_, ?_, fun e2 => ?_⟩⟩, hok.out, HBT.out, hmlen⟩
          · rcases e with e | (e | e) | e
            · exact .inl e
            · omega
            · have := y4 i e.symm; omega
            · exact .inr e
          · have := h4.size; omega
          · have := y4 g e; have := h4.size; omega
          · have := y4 g e; omega
          · have := y4 g e; omega
          · have := y4 g e; have := b3 g e2; omega)
        clear hl6 HLS HU
        go_wp2_with fail
        go_loopw [67] (fun i wr => ∃ (k : Nat) (s m : CL), k ≤ N2 ∧ i = .int .i64 k ∧ Hid (LM2 w wr lb lb2 mb s m ∧ OkL s ∧ But s m ∧ m.ans.length ≤ 200)) (fun i _ => N2 - (RowKit.intOf i).toNat)
        case atStart => exact ⟨0, s, m, by omega, rfl, HI2⟩
        case round =>
          obtain ⟨k, s, m, hkN, rfl, HJ⟩ := hrel
          by_cases hlt2 : k < N2
          · obtain ⟨a, ha⟩ := get_some (l := L2) (k := k) (by have := HN2.out; omega)
            obtain ⟨hLM, hok0, hbut, hml⟩ := HJ.out
            obtain ⟨r, A, c, r2, A2, c2, B, d, hL, hY, hB, hM, hK, ⟨g1, g2, g3⟩, ⟨g4, g5, g6⟩, g7, g8⟩ := hLM
            obtain ⟨b, off, rfl, hb, q0, q1, q2, q3, q4, q5⟩ := acts_at (HAC2.out wr hK) ha
            have hke := hbut.err a
            have hbs := hbut.step a
            have hkp := step_kept s a
            have hml2 := stepM_len m a hml
            have hka : Same wr (wr.alloc (.cells #[.int .i64 a.k, .int .i64 a.cen, .int .i64 a.n, .int .i64 a.ep, .int .i64 a.tk, .string a.tree] 35)) := (Keep.refl _ wr).alloc _
            have hab := Blk.made wr 35 #[.int .i64 a.k, .int .i64 a.cen, .int .i64 a.n, .int .i64 a.ep, .int .i64 a.tk, .string a.tree]
            have hmb := hB.lt
            have hlb := hL.top.lt
            have hlb2 := hY.top.lt
            have hrl := hL.lt
            have hrl2 := hY.lt
            have hD := does_any (fun i => (i = lb2 ∨ some i = r2) ∨ i = mb) (wr.alloc (.cells #[.int .i64 a.k, .int .i64 a.cen, .int .i64 a.n, .int .i64 a.ep, .int .i64 a.tk, .string a.tree] 35)) (fun i hi => by
              simp only [World.size_alloc]
              rcases hi with (hi | hi) | hi
              · omega
              · have := hrl2 i hi.symm; omega
              · omega) lb r A c s (hL.same hka) m B d (hM.same hka) (by omega) a
            rw [hke, beq_self_eq_true] at hD
            have hE := fun (W : World) (p q : Prop) => True
            clear hE
            have HDY := hid (fun (W : World) (Av0 : Nat → Prop) (hA0 : ∀ i, Av0 i → i < W.heap.size) (hy : LineAt W lb2 r2 A2 c2 s) (hm : Sl W (fun i => (i = lb2 ∨ some i = r2) ∨ Av0 i) 1 B m.ans.length (icells m.ans)) => does_any Av0 W hA0 lb2 r2 A2 c2 s hy m B d hm (by omega) a)
            rw [hke, beq_self_eq_true] at HDY
            have HBa := hid (hB.keep hka (fun f => f))
            have HYa := hid (hY.same hka)
            have HMa := hid (hM.same hka)
            have HKa := hid (hK.then hka)
            have HAB := hid hab
            have HKP := hid hkp
            have HBS := hid hbs
            have HML := hid hml2
            have HOK0 := hid hok0
            have HRL := hid hrl
            have HRL2 := hid hrl2
            have HG7 := hid g7
            have HG8 := hid g8
            have z0 := hB.at_ 0
            have z1 := hB.at_ 1
            have z2 := hB.at_ 2
            have z3 := hB.at_ 3
            have z4 := hB.at_ 4
            have z5 := hB.at_ 5
            have z6 := hB.at_ 6
            have z7 := hB.at_ 7
            obtain ⟨ocall, ost, osince, ocen, oep, oname, over, oans⟩ := m
            obtain ⟨ak, acen, an, aep, atk, atree⟩ := a
            simp [CL.cells] at z0 z1 z2 z3 z4 z5 z6 z7
            simp only [CL.cells, LA.cells] at hD HDY
            generalize hsn : stepS s ⟨ak, acen, an, aep, atk, atree⟩ = s' at *
            generalize hmn : stepM ⟨ocall, ost, osince, ocen, oep, oname, over, oans⟩ ⟨ak, acen, an, aep, atk, atree⟩ = m' at *
            simp only at q0 q1 q2 q3 q4 q5
            have HD := hid hD
            have hk1 : (k : Int) < (N2 : Int) := by omega
            clear hN' hN2'
            obtain ⟨mcall, mst, msince, mcen, mep, mname, mver, mans⟩ := m'
            clear hD g7 g8 hsn hmn ha hL hY hB hM hK hka hab hke hbs hkp hml2 hok0 hbut hml hrl hrl2 HJ
            go_wp2_with fail
            refine HD.out.mono ?_
            rintro e w2 ⟨r', A', c', B3, d3, rfl, hL2, hS2, hK2, hg2⟩
            simp only at hS2
            have hmr : ¬ (mb = lb ∨ some mb = r) := fun e => by
              rcases e with e | e
              · exact g4 e
              · exact (HG7.out mb e.symm).2.1 rfl
            have hyr : ¬ (lb2 = lb ∨ some lb2 = r) := fun e => by
              rcases e with e | e
              · exact g6 e.symm
              · exact (HG7.out lb2 e.symm).2.2 rfl
            have hb2 := HBa.out.keep hK2 hmr
            have hy2 := HYa.out.keep hK2 hyr (fun g e hs => by
              rcases hs with hs | hs
              · exact (HG8.out g e).2.2.1 hs
              · exact (HG8.out g e).2.2.2 hs.symm)
            have hab2 := HAB.out.keep hK2 (fun hs => by
              rcases hs with hs | hs
              · omega
              · have := HRL.out _ hs.symm; omega)
            have hg3 : ∀ g, r' = some g → r = some g ∨ wr.heap.size + 1 ≤ g := fun g e => by
              rcases hg2 g e with e | e
              · exact .inl e
              · simp only [World.size_alloc] at e; exact .inr e
            have HG3 := hid hg3
            have hKw2 : Same w w2 := HKa.out.trans hK2 (fun i hi e => by
              rcases e with e | e
              · omega
              · have := (HG7.out i e.symm).1; omega)
            have hz2 := hb2.lt
            have hw2 : wr.heap.size + 1 ≤ w2.heap.size := by have := hK2.size; simpa using this
            have hmY := (HMa.out.keep hK2 (fun i _ e => .inl e)).wide (Av' := fun i => (i = lb2 ∨ some i = r2) ∨ (i = mb ∨ i = lb ∨ some i = r)) (fun i _ e => by
              rcases e with e | e | e | e
              · exact .inr (.inl e)
              · exact .inr (.inr e)
              · exact .inl (.inl e)
              · exact .inl (.inr e))
            have hw2' : wr.heap.size < w2.heap.size := by omega
            have HMY := hid hmY
            have HB2 := hid hb2
            have HY2 := hid hy2
            have HAB2 := hid hab2
            have HKW2 := hid hKw2
            have HL2 := hid hL2
            have HS2 := hid hS2
            have p0 := hb2.at_ 0
            have p1 := hb2.at_ 1
            have p2 := hb2.at_ 2
            have p3 := hb2.at_ 3
            have p4 := hb2.at_ 4
            have p5 := hb2.at_ 5
            have p6 := hb2.at_ 6
            have p7 := hb2.at_ 7
            have x0 := hab2.at_ 0
            have x1 := hab2.at_ 1
            have x2 := hab2.at_ 2
            have x3 := hab2.at_ 3
            have x4 := hab2.at_ 4
            have x5 := hab2.at_ 5
            simp [CL.cells] at p0 p1 p2 p3 p4 p5 p6 p7 x0 x1 x2 x3 x4 x5
            clear hmr hyr hb2 hy2 hab2 hg3 hKw2 hmY hL2 hS2 hK2 hg2 HD z0 z1 z2 z3 z4 z5 z6 z7 q0 q1 q2 q3 q4 q5
            simp only [CL.cells]
            have hka3 : Same w2 (w2.alloc (.cells #[.int .i64 mcall, .int .i64 mst, .int .i64 msince, .int .i64 mcen, .int .i64 mep, .string mname, .int .i64 mver, .slice B3 mans.length d3] 31)) := (Keep.refl _ w2).alloc _
            have hdy := HDY.out (w2.alloc (.cells #[.int .i64 mcall, .int .i64 mst, .int .i64 msince, .int .i64 mcen, .int .i64 mep, .string mname, .int .i64 mver, .slice B3 mans.length d3] 31)) (fun i => i = mb ∨ i = lb ∨ some i = r) (fun i hi => by
              simp only [World.size_alloc]
              rcases hi with hi | hi | hi
              · omega
              · omega
              · have := HRL.out i hi.symm; omega) (HY2.out.same hka3) (HMY.out.same hka3)
            have HDY2 := hid hdy
            have HP3 := hid (Blk.made w2 31 #[.int .i64 mcall, .int .i64 mst, .int .i64 msince, .int .i64 mcen, .int .i64 mep, .string mname, .int .i64 mver, .slice B3 mans.length d3])
            have HKA3 := hid hka3
            clear hdy hka3 HDY
            go_wp2_with fail
            refine HDY2.out.mono ?_
            rintro e w3 ⟨r2', A2', c2', B4, d4, rfl, hY3, hS3, hK3, hg3⟩
            simp only [CL.cells]
            have hok' := HKP.out.ok HOK0.out
            have hl3 := (HL2.out.same HKA3.out).keep hK3 (fun hs => by
              rcases hs with hs | hs
              · exact g6 hs
              · exact (HG8.out lb hs.symm).2.2.1 rfl) (fun g e hs => by
              rcases HG3.out g e with e2 | e2
              · rcases hs with hs | hs
                · exact (HG7.out g e2).2.2 hs
                · exact (HG8.out g hs.symm).2.2.2 e2
              · rcases hs with hs | hs
                · omega
                · have := HRL2.out g hs.symm; omega)
            have hka4 : Same w3 (w3.alloc (.cells #[.int .i64 mcall, .int .i64 mst, .int .i64 msince, .int .i64 mcen, .int .i64 mep, .string mname, .int .i64 mver, .slice B4 mans.length d4] 31)).drew := ((Keep.refl _ w3).alloc _).drew
            have HL4 := hid (hl3.same hka4)
            have HY4 := hid (hY3.same hka4)
            have HMx := hid (marshal_any _ _ _ _ _ _ HL4.out hok')
            have HMy := hid (fun W (hk : Same (w3.alloc (.cells #[.int .i64 mcall, .int .i64 mst, .int .i64 msince, .int .i64 mcen, .int .i64 mep, .string mname, .int .i64 mver, .slice B4 mans.length d4] 31)).drew W) => marshal_any W _ _ _ _ _ (HY4.out.same hk) hok')
            have HK3 := hid hK3
            have HKA4 := hid hka4
            have HG9 := hid hg3
            clear hl3 hka4 hK3 hS3 hY3 hg3 HDY2 p0 p1 p2 p3 p4 p5 p6 p7 x0 x1 x2 x3 x4 x5
            go_wp2
            refine wp_region_held_drew (S := fun _ => True) (by kernel_rfl) trivial (fun hHeld => ?_)
            refine takeO (i := 0) (v := ?_) (by kernel_rfl) (by kernel_rfl) (by kernel_rfl) (fun c a d v w h => by cases d <;> exact h) (oi := ?_) ?_ ?_ (by assumption) ?_
            rotate_left 2
            · (simp only [List.getElem?_toArray, List.getElem?_cons_zero]; rfl)
            · (refine Or.inl ⟨by rfl, ?_⟩; intro w hSw; (try dsimp only at hSw); go_simp; try with_reducible rfl)
            try simp only [Act.put, List.setIfInBounds_toArray, List.set_cons_zero, List.set_cons_succ]
            refine takeO (i := 1) (v := ?_) (by kernel_rfl) (by kernel_rfl) (by kernel_rfl) (fun c a d v w h => by cases d <;> exact h) (oi := ?_) ?_ ?_ (by assumption) ?_
            rotate_left 2
            · (simp only [List.getElem?_toArray, List.getElem?_cons_succ, List.getElem?_cons_zero]; rfl)
            · (refine Or.inl ⟨by rfl, ?_⟩; intro w hSw; (try dsimp only at hSw); go_simp; try with_reducible rfl)
            try simp only [Act.put, List.setIfInBounds_toArray, List.set_cons_zero, List.set_cons_succ]
            refine takeO (i := 2) (v := ?_) (by kernel_rfl) (by kernel_rfl) (by kernel_rfl) (fun c a d v w h => by cases d <;> exact h) (oi := ?_) ?_ ?_ (by assumption) ?_
            rotate_left 2
            · (simp only [List.getElem?_toArray, List.getElem?_cons_succ, List.getElem?_cons_zero]; rfl)
            · (refine Or.inl ⟨by rfl, ?_⟩; intro w hSw; (try dsimp only at hSw); go_simp; try with_reducible rfl)
            try simp only [Act.put, List.setIfInBounds_toArray, List.set_cons_zero, List.set_cons_succ]
            refine takeO (i := 3) (v := ?_) (by kernel_rfl) (by kernel_rfl) (by kernel_rfl) (fun c a d v w h => by cases d <;> exact h) (oi := ?_) ?_ ?_ (by assumption) ?_
            rotate_left 2
            · (simp only [List.getElem?_toArray, List.getElem?_cons_succ, List.getElem?_cons_zero]; rfl)
            · (refine Or.inl ⟨by rfl, ?_⟩; intro w hSw; (try dsimp only at hSw); go_simp; try with_reducible rfl)
            try simp only [Act.put, List.setIfInBounds_toArray, List.set_cons_zero, List.set_cons_succ]
            refine takeO (i := 4) (v := ?_) (by kernel_rfl) (by kernel_rfl) (by kernel_rfl) (fun c a d v w h => by cases d <;> exact h) (oi := ?_) ?_ ?_ (by assumption) ?_
            rotate_left 2
            · (simp only [List.getElem?_toArray, List.getElem?_cons_succ, List.getElem?_cons_zero]; rfl)
            · (refine Or.inl ⟨by rfl, ?_⟩; intro w hSw; (try dsimp only at hSw); go_simp; try with_reducible rfl)
            try simp only [Act.put, List.setIfInBounds_toArray, List.set_cons_zero, List.set_cons_succ]
            refine takeO (i := 5) (v := ?_) (by kernel_rfl) (by kernel_rfl) (by kernel_rfl) (fun c a d v w h => by cases d <;> exact h) (oi := ?_) ?_ ?_ (by assumption) ?_
            rotate_left 2
            · (simp only [List.getElem?_toArray, List.getElem?_cons_succ, List.getElem?_cons_zero]; rfl)
            · (refine Or.inl ⟨by rfl, ?_⟩; intro w hSw; (try dsimp only at hSw); go_simp; try with_reducible rfl)
            try simp only [Act.put, List.setIfInBounds_toArray, List.set_cons_zero, List.set_cons_succ]
            refine takeO (i := 6) (v := ?_) (by kernel_rfl) (by kernel_rfl) (by kernel_rfl) (fun c a d v w h => by cases d <;> exact h) (oi := ?_) ?_ ?_ (by assumption) ?_
            rotate_left 2
            · (simp only [List.getElem?_toArray, List.getElem?_cons_succ, List.getElem?_cons_zero]; rfl)
            · (refine Or.inl ⟨by rfl, ?_⟩; intro w hSw; (try dsimp only at hSw); go_simp; try with_reducible rfl)
            try simp only [Act.put, List.setIfInBounds_toArray, List.set_cons_zero, List.set_cons_succ]
            refine takeO (i := 7) (v := ?_) (by kernel_rfl) (by kernel_rfl) (by kernel_rfl) (fun c a d v w h => by cases d <;> exact h) (oi := ?_) ?_ ?_ (by assumption) ?_
            rotate_left 2
            · (simp only [List.getElem?_toArray, List.getElem?_cons_succ, List.getElem?_cons_zero]; rfl)
            · (refine Or.inl ⟨by rfl, ?_⟩; intro w hSw; (try dsimp only at hSw); go_simp; try with_reducible rfl)
            try simp only [Act.put, List.setIfInBounds_toArray, List.set_cons_zero, List.set_cons_succ]
            refine takeO (i := 10) (v := ?_) (by kernel_rfl) (by kernel_rfl) (by kernel_rfl) (fun c a d v w h => by cases d <;> exact h) (oi := ?_) ?_ ?_ (by assumption) ?_
            rotate_left 2
            · (simp only [List.getElem?_toArray, List.getElem?_cons_succ, List.getElem?_cons_zero]; rfl)
            · (refine Or.inl ⟨by rfl, ?_⟩; intro w hSw; (try dsimp only at hSw); go_simp; try with_reducible rfl)
            try simp only [Act.put, List.setIfInBounds_toArray, List.set_cons_zero, List.set_cons_succ]
            refine wpAnyH_ready (rs := [8]) (by kernel_rfl) (by simp) ?_
            refine AllReadyH.cons rfl (fun K hK => ?_) AllReadyH.nil
            go_simp
            refine (HMx.out).mono ?_
            rintro e w4 ⟨g4', rfl, hg4, hb4, hk4⟩
            have hcv4 := conv_str w4 (fun _ => False) (some ⟨g4', 0, none⟩) (encCL s').length (encCL s').length (encCL s') (Sl.of_blk hb4 (by simp [bcells]) (fun f => f))
            have HMy4 := hid (HMy.out w4 hk4)
            have HK4 := hid hk4
            have HB4 := hid hb4
            clear hb4 hk4
            refine hK.out _ _ trivial (fun hHeld1 => ?_)
            clear hK K
            try simp only [Act.put, List.setIfInBounds_toArray, List.set_cons_zero, List.set_cons_succ]
            refine wpAnyH_weak (S := fun _ => True) (S' := fun W => (convert 39 9 (.slice (some ⟨g4', 0, none⟩) (encCL s').length (encCL s').length)).run Try.prog W = .ok (.string (strOf (encCL s'))) W) (fun _ _ => trivial) _ _ _ _ ?_
            have hHeld2 : (fun W => (convert 39 9 (.slice (some ⟨g4', 0, none⟩) (encCL s').length (encCL s').length)).run Try.prog W = .ok (.string (strOf (encCL s'))) W) w4 := hcv4
            clear hcv4
            refine takeO (i := 9) (v := ?_) (by kernel_rfl) (by kernel_rfl) (by kernel_rfl) (fun c a d v w h => by cases d <;> exact h) (oi := ?_) ?_ ?_ (by assumption) ?_
            rotate_left 2
            · (simp only [List.getElem?_toArray, List.getElem?_cons_succ, List.getElem?_cons_zero]; rfl)
            · (refine Or.inl ⟨by rfl, ?_⟩; intro w hSw; (try dsimp only at hSw); go_simp; try with_reducible rfl)
            try simp only [Act.put, List.setIfInBounds_toArray, List.set_cons_zero, List.set_cons_succ]
            refine wpAnyH_ready (rs := [11]) (by kernel_rfl) (by simp) ?_
            refine AllReadyH.cons rfl (fun K hK => ?_) AllReadyH.nil
            go_simp
            refine (HMy4.out).mono ?_
            rintro e w5 ⟨g5', rfl, hg5, hb5, hk5⟩
            have hcv5 := conv_str w5 (fun _ => False) (some ⟨g5', 0, none⟩) (encCL s').length (encCL s').length (encCL s') (Sl.of_blk hb5 (by simp [bcells]) (fun f => f))
            have hcw5 := conv_str w5 (fun _ => False) (some ⟨g4', 0, none⟩) (encCL s').length (encCL s').length (encCL s') (Sl.of_blk (HB4.out.keep hk5 (fun f => f)) (by simp [bcells]) (fun f => f))
            have HK5 := hid (HK4.out.then hk5)
            clear hb5 hk5
            refine hK.out _ _ hcw5 (fun hHeld3 => ?_)
            clear hK K
            try simp only [Act.put, List.setIfInBounds_toArray, List.set_cons_zero, List.set_cons_succ]
            refine wpAnyH_weak (S' := fun W => (convert 39 9 (.slice (some ⟨g4', 0, none⟩) (encCL s').length (encCL s').length)).run Try.prog W = .ok (.string (strOf (encCL s'))) W ∧ (convert 39 9 (.slice (some ⟨g5', 0, none⟩) (encCL s').length (encCL s').length)).run Try.prog W = .ok (.string (strOf (encCL s'))) W) (fun _ h => h.1) _ _ _ _ ?_
            have hHeld4 : (fun W => (convert 39 9 (.slice (some ⟨g4', 0, none⟩) (encCL s').length (encCL s').length)).run Try.prog W = .ok (.string (strOf (encCL s'))) W ∧ (convert 39 9 (.slice (some ⟨g5', 0, none⟩) (encCL s').length (encCL s').length)).run Try.prog W = .ok (.string (strOf (encCL s'))) W) w5 := ⟨hcw5, hcv5⟩
            clear hcv5 hcw5
            refine takeO (i := 12) (v := ?_) (by kernel_rfl) (by kernel_rfl) (by kernel_rfl) (fun c a d v w h => by cases d <;> exact h) (oi := ?_) ?_ ?_ (by assumption) ?_
            rotate_left 2
            · (simp only [List.getElem?_toArray, List.getElem?_cons_succ, List.getElem?_cons_zero]; rfl)
            · (refine Or.inl ⟨by rfl, ?_⟩; intro w hSw; (try dsimp only at hSw); go_simp; try with_reducible rfl)
            try simp only [Act.put, List.setIfInBounds_toArray, List.set_cons_zero, List.set_cons_succ]
            refine takeO (i := 13) (v := ?_) (by kernel_rfl) (by kernel_rfl) (by kernel_rfl) (fun c a d v w h => by cases d <;> exact h) (oi := ?_) ?_ ?_ (by assumption) ?_
            rotate_left 2
            · (simp only [List.getElem?_toArray, List.getElem?_cons_succ, List.getElem?_cons_zero]; rfl)
            · (refine Or.inl ⟨by rfl, ?_⟩; intro w hSw; (try dsimp only at hSw); go_simp; try with_reducible rfl)
            try simp only [Act.put, List.setIfInBounds_toArray, List.set_cons_zero, List.set_cons_succ]
            refine takeO (i := 14) (v := ?_) (by kernel_rfl) (by kernel_rfl) (by kernel_rfl) (fun c a d v w h => by cases d <;> exact h) (oi := ?_) ?_ ?_ (by assumption) ?_
            rotate_left 2
            · (simp only [List.getElem?_toArray, List.getElem?_cons_succ, List.getElem?_cons_zero]; rfl)
            · (refine Or.inl ⟨by rfl, ?_⟩; intro w hSw; (try dsimp only at hSw); go_simp; try with_reducible rfl)
            try simp only [Act.put, List.setIfInBounds_toArray, List.set_cons_zero, List.set_cons_succ]
            refine wpAnyH_done (by kernel_rfl) ?_ _

            have hl5 := hid (HL4.out.same HK5.out)
            have hy5 := hid (HY4.out.same HK5.out)
            have hp5 := ((HP3.out.keep HK3.out (fun hs => by
              rcases hs with hs | hs
              · omega
              · have := HRL2.out _ hs.symm; omega)).keep HKA4.out (fun f => f)).keep HK5.out (fun f => f)
            have hmm := (((HB2.out.keep HKA3.out (fun f => f)).keep HK3.out (fun hs => by
              rcases hs with hs | hs
              · exact g5 hs
              · exact (HG8.out mb hs.symm).2.1 rfl)).keep HKA4.out (fun f => f)).keep HK5.out (fun f => f)
            have hs5 := ((((HS2.out.wide (Av' := fun i => ((i = lb ∨ some i = r') ∨ (i = lb2 ∨ some i = r2') ∨ i = mb) ∨ (i = lb2 ∨ some i = r2)) (fun i hi e => by
              rcases e with (e | (e | e) | e) | e
              · exact .inl e
              · exact .inr (.inl (.inl e))
              · rcases HG9.out i e.symm with e2 | e2
                · exact .inr (.inl (.inr e2.symm))
                · simp only [World.size_alloc] at e2; omega
              · exact .inr (.inr e)
              · exact .inr (.inl e))).same HKA3.out).keep HK3.out (fun i _ e => .inr e)).same HKA4.out).same HK5.out
            have HS5 := hid (hs5.wide (Av' := fun i => (i = lb ∨ some i = r') ∨ (i = lb2 ∨ some i = r2') ∨ i = mb) (fun i _ e => .inl e))
            have HKW5 := hid ((((HKW2.out.then HKA3.out).trans HK3.out (fun i hi e => by
              rcases e with e | e
              · omega
              · have := (HG8.out i e.symm).1; omega)).then HKA4.out).then HK5.out)
            have hr5 : ∀ g, r' = some g → w.heap.size ≤ g ∧ g ≠ mb ∧ g ≠ lb2 := fun g e => by
              rcases HG3.out g e with e2 | e2
              · exact HG7.out g e2
              · exact ⟨by omega, by omega, by omega⟩
            have hr6 : ∀ g, r2' = some g → w.heap.size ≤ g ∧ g ≠ mb ∧ g ≠ lb ∧ ¬ r' = some g := fun g e => by
              rcases HG9.out g e with e2 | e2
              · obtain ⟨y1, y2, y3, y4⟩ := HG8.out g e2
                refine ⟨y1, y2, y3, fun e3 => ?_⟩
                rcases HG3.out g e3 with e4 | e4
                · exact y4 e4
                · have := HRL2.out g e2; omega
              · simp only [World.size_alloc] at e2
                refine ⟨by omega, by omega, by omega, fun e3 => ?_⟩
                have := HL2.out.lt g e3
                omega
            have HR5 := hid hr5
            have HR6 := hid hr6
            simp only [CL.cells] at hmm
            have HMM := hid hmm
            clear hs5 hr5 hr6 HG3 HG7 HG8 HG9 HRL HRL2 HKA3 HKA4 HK3 HK4 HK5 HL4 HY4 HS2 HL2 HY2 HAB2 HKW2 HB2 HMx HMy HMy4 hHeld hHeld1 hHeld2 hHeld3 hHeld4 HP3 HMY HB4 hg4 hg5
            have p0 := hmm.at_ 0
            have f0 := hmm.free 0
            have y0 := hp5.at_ 0
            have p1 := hmm.at_ 1
            have f1 := hmm.free 1
            have y1 := hp5.at_ 1
            have p2 := hmm.at_ 2
            have f2 := hmm.free 2
            have y2 := hp5.at_ 2
            have p3 := hmm.at_ 3
            have f3 := hmm.free 3
            have y3 := hp5.at_ 3
            have p4 := hmm.at_ 4
            have f4 := hmm.free 4
            have y4 := hp5.at_ 4
            have p5 := hmm.at_ 5
            have f5 := hmm.free 5
            have y5 := hp5.at_ 5
            have p6 := hmm.at_ 6
            have f6 := hmm.free 6
            have y6 := hp5.at_ 6
            have p7 := hmm.at_ 7
            have f7 := hmm.free 7
            have y7 := hp5.at_ 7
            simp at p0 p1 p2 p3 p4 p5 p6 p7 y0 y1 y2 y3 y4 y5 y6 y7
            clear hmm hp5
            go_upto_region 25 with fail
            have hkA := (((((((((Keep.refl (· = mb) w5).put 0 (.int .i64 mcall)).put 1 (.int .i64 mst)).put 2 (.int .i64 msince)).put 3 (.int .i64 mcen)).put 4 (.int .i64 mep)).put 5 (.string mname)).put 6 (.int .i64 mver)).put 7 (.slice B3 mans.length d3))
            have hrA := ((((((((HMM.out.put 0 (.int .i64 mcall)).put 1 (.int .i64 mst)).put 2 (.int .i64 msince)).put 3 (.int .i64 mcen)).put 4 (.int .i64 mep)).put 5 (.string mname)).put 6 (.int .i64 mver)).put 7 (.slice B3 mans.length d3))
            generalize ((((((((w5.setCell ⟨mb, 0, none⟩ (.int .i64 mcall)).setCell ⟨mb, 1, none⟩ (.int .i64 mst)).setCell ⟨mb, 2, none⟩ (.int .i64 msince)).setCell ⟨mb, 3, none⟩ (.int .i64 mcen)).setCell ⟨mb, 4, none⟩ (.int .i64 mep)).setCell ⟨mb, 5, none⟩ (.string mname)).setCell ⟨mb, 6, none⟩ (.int .i64 mver)).setCell ⟨mb, 7, none⟩ (.slice B3 mans.length d3)) = wA at *
            have HI3 : Hid (LM2 w wA lb lb2 mb s' ⟨mcall, mst, msince, mcen, mep, mname, mver, mans⟩ ∧ OkL s' ∧ But s' ⟨mcall, mst, msince, mcen, mep, mname, mver, mans⟩ ∧ mans.length ≤ 200) := hid ⟨⟨r', A', c', r2', A2', c2', B3, d3, hl5.out.keep hkA (fun e => g4 e.symm) (fun g e h => (HR5.out g e).2.1 h), hy5.out.keep hkA (fun e => g5 e.symm) (fun g e h => (HR6.out g e).2.1 h), hrA, HS5.out.keep hkA (fun i _ e => .inr (.inr e)), HKW5.out.trans hkA (fun i hi e => by omega), ⟨g1, g2, g3⟩, ⟨g4, g5, g6⟩, HR5.out, HR6.out⟩, HKP.out.ok HOK0.out, HBS.out, HML.out⟩
            clear hkA hrA hl5 hy5 HS5 HKW5 HR5 HR6 HMM HKP HBS HML HOK0 p0 p1 p2 p3 p4 p5 p6 p7 f0 f1 f2 f3 f4 f5 f6 f7 y0 y1 y2 y3 y4 y5 y6 y7
            have hk2 : (k : Int) + 1 ≤ 9223372036854775807 := by have := HNm2.out; unfold maxLen at this; omega
            go_wp2_with fail
            go_roundw
            case rel =>
              exact ⟨k + 1, s', ⟨mcall, mst, msince, mcen, mep, mname, mver, mans⟩, by omega, by go_num, HI3⟩
            case measure => simp [RowKit.intOf]; omega
          · go_wp2_with fail
            go_ret
            obtain ⟨⟨r, A, c, r2, A2, c2, B, d, h1, h2, h3, h4, h5, _⟩, _⟩ := HJ.out
            exact ⟨rfl, h5⟩
  · have hsm' : smallL L = false := by simpa using hsm
    rw [hsm'] at HSM
    go_enter Try.func5, Try.ntmps5
    go_wp2_with fail
    refine HAL.out.mono ?_
    rintro e w1 ⟨rfl, hk1⟩
    have HSM1 := hid (HSM.out w1 hk1)
    have HK1 := hid hk1
    clear hk1
    go_wp2_with fail
    refine HSM1.out.mono ?_
    rintro e w2 ⟨rfl, hk2⟩
    go_wp2_with fail
    go_ret
    exact ⟨rfl, HK1.out.then hk2⟩
end Go.Proofs.Ytkkenfgpmoediaa

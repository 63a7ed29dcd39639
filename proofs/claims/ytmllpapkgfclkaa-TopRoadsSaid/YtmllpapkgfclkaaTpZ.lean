import Derived.Test.YtmllpapkgfclkaaTpX
import Derived.Test.YtmllpapkgfclkaaTpQ
namespace Go.Proofs.Ytmllpapkgfclkaa
open Go.RowKit

/-! ## awake, few -/
set_option maxRecDepth 100000 in
theorem update_nil (w : World) (x : Int) : Calls Try.prog 28 #[.int .u64 x, .slice none 0 0] w fun e w' => e = .returned (.int .u64 x) ∧ Same w w' := by
  go_enter Try.func28, Try.ntmps28
  go_wp2_with fail
  go_loopw [0, 9] (fun s i wr => s = .int .u64 x ∧ i = .int .i64 0 ∧ Hid (Same w wr)) (fun _ _ _ => 0)
  case atStart => exact ⟨rfl, rfl, hid (Keep.refl _ _)⟩
  case round =>
    obtain ⟨rfl, rfl, HL⟩ := hrel
    go_wp2_with fail
    go_ret
    exact ⟨rfl, HL.out⟩
set_option maxRecDepth 100000 in
theorem sum_nil (w : World) : Calls Try.prog 15 #[.slice none 0 0] w fun e w' => e = .returned (.int .u64 14695981039346656037) ∧ Same w w' := by
  have H := hid (update_nil w 14695981039346656037)
  go_enter Try.func15, Try.ntmps15
  go_wp2_with (go_at_call 28; (with_reducible refine H.out.mono ?_); rintro e w2 ⟨rfl, hk2⟩; have HK2 := hid hk2; clear hk2)
  go_ret
  exact ⟨rfl, HK2.out⟩
set_option maxRecDepth 100000 in
theorem awake_any (w : World) : Calls Try.prog 4 #[] w fun e w' => e = .returned (.bool true) ∧ Same w w' := by
  have H := hid (sum_nil w)
  go_enter Try.func4, Try.ntmps4
  go_wp2_with (go_at_call 15; (with_reducible refine H.out.mono ?_); rintro e w2 ⟨rfl, hk2⟩; have HK2 := hid hk2; clear hk2)
  go_ret
  exact ⟨rfl, HK2.out⟩
theorem few_any (w : World) (A : Option Addr) (n c : Nat) : Calls Try.prog 5 #[.slice A n c] w fun e w' => e = .returned (.bool (decide (n ≤ 24))) ∧ w = w' := by
  have HD := hid (show decide ((n : Int) ≤ 24) = decide (n ≤ 24) from by by_cases h : n ≤ 24 <;> simp [h] <;> omega)
  go_enter Try.func5, Try.ntmps5
  go_wp2_with fail
  go_ret
  exact ⟨by first | rfl | (rw [← HD.out]; rfl), rfl⟩
/-! ## The law's walk -/
def TopOk (W : World) (e : Ending) (w' : World) : Prop := e = .returned (.bool true) ∧ Same W w'
set_option maxRecDepth 100000 in
set_option maxHeartbeats 8000000 in
theorem top_walk (W : World) (A : Option Addr) (c : Nat) (l : List E3) (hl : Sl W (fun _ => False) 3 A l.length (e3cells l)) (B : Option Addr) (d : Nat) (cs : List E3) (hcs : Sl W (fun _ => False) 3 B cs.length (e3cells cs)) (tick : Int) :
    Calls Try.prog 3 #[.slice A l.length c, .slice B cs.length d, .int .i64 tick] W (TopOk W) := by
  have HAW := hid (awake_any W)
  have HL := hid hl
  have HC := hid hcs
  have HF := hid (fun w => few_any w A l.length c)
  clear hl hcs
  go_enter Try.func3, Try.ntmps3
  by_cases h1 : l.length ≤ 24
  · have d1 : decide (l.length ≤ 24) = true := decide_eq_true h1
    by_cases h2 : 20 < cs.length
    · have d2 : decide (20 < cs.length) = true := decide_eq_true h2
      have h2i : (20 : Int) < (cs.length : Int) := by omega
      go_wp2_with (first | (go_at_call 4; (with_reducible refine HAW.out.mono ?_); rintro e w1 ⟨rfl, hk1⟩; have HK1 := hid hk1; clear hk1) | (go_at_call 5; (with_reducible refine (HF.out _).mono ?_); rintro e w2 ⟨rfl, rfl⟩; rw [d1]))
      go_ret
      exact ⟨rfl, HK1.out⟩
    · have d2 : decide (20 < cs.length) = false := decide_eq_false h2
      have h2i : ¬ (20 : Int) < (cs.length : Int) := by omega
      have h2j : (cs.length : Int) ≤ 20 := by omega
      have HNG := hid (fun (w : World) (hk : Same W w) => show Calls Try.prog 6 #[.int .i64 8, .slice A l.length c] w (NewG w 8 l) from newG_any w 8 A c l (by omega) (by omega) (HL.out.same hk) (by omega))
      unfold NewG at HNG
      go_wp2_with (first | (go_at_call 4; (with_reducible refine HAW.out.mono ?_); rintro e w1 ⟨rfl, hk1⟩; have HK1 := hid hk1; clear hk1) | (go_at_call 5; (with_reducible refine (HF.out _).mono ?_); rintro e w2 ⟨rfl, rfl⟩; rw [d1]))
      (with_reducible refine (HNG.out w1 HK1.out).mono ?_)
      rintro e w3 ⟨hyes, hno, hk3⟩
      have HK3 := hid (HK1.out.then hk3)
      clear HNG hk3
      cases hall : l.all (edgeB ((8 : Nat) : Int))
      · have he := hno hall
        have hpos : 0 < l.length := by
          cases l with
          | nil => simp at hall
          | cons x l => simp
        subst he
        have hposi : (0 : Int) < (l.length : Int) := by omega
        clear hyes hno hall
        go_wp2_with fail
        go_ret
        exact ⟨rfl, HK3.out⟩
      · obtain ⟨g, E, cE, po, pi, rfl, hG⟩ := hyes hall
        have HG := hid hG
        have HOK := hid (edgeB_all hall)
        have HTN := hid (ttnew_any w3 g 8 l E cE po pi hG (by omega))
        unfold NewPost at HTN
        clear hyes hno hall hG
        go_wp2_with (go_at_call 7; (with_reducible refine HTN.out.mono ?_); rintro e w4 ⟨base, t, pb, rfl, h0⟩; have HT0 := hid h0; clear h0)
        go_loopw [53] (fun i wr => ∃ (k : Nat) (chv : Value) (cs' : List E3) (V : List Value) (L : List (List E3)), k ≤ cs.length ∧ i = .int .i64 k ∧ Hid (TT0 w3 wr base t g l.length pb chv cs' V L ∧ cs'.length ≤ k ∧ ∀ r ∈ L, r.length ≤ k)) (fun i _ => cs.length - (RowKit.intOf i).toNat)
        case atStart => exact ⟨0, _, _, _, _, Nat.zero_le _, rfl, hid ⟨HT0.out, Nat.le_refl _, fun r hr => by rw [List.eq_of_mem_replicate hr]; exact Nat.le_refl _⟩⟩
        case round =>
          obtain ⟨k, chv, cs', V, L, hk, rfl, HI⟩ := hrel
          clear HT0
          by_cases hkn : k < cs.length
          · obtain ⟨e, he⟩ := get_some hkn
            obtain ⟨b1, o1, rfl, hb1, x0, x1, x2⟩ := e3_at (HC.out.same (HK3.out.then HI.out.1.same)) he
            obtain ⟨ea, eb, ec⟩ := e
            simp only at x0 x1 x2
            have hk0 : (0 : Int) ≤ (k : Int) := Int.natCast_nonneg _
            have hk1 : (k : Int) < (cs.length : Int) := by omega
            have HAP := hid (append_any (HI.out.1.more ((Keep.refl (fun _ => False) wr).alloc (.cells #[.int .i64 ea, .int .i64 eb, .int .i64 ec] 33))) (by omega) (by have := HI.out.2.1; omega) (fun r hr => by have := HI.out.2.2 r hr; omega) ⟨ea, eb, ec⟩)
            unfold AppPost at HAP
            simp only at HAP
            clear he
            go_wp2_with (go_at_call 8; (with_reducible refine HAP.out.mono ?_); rintro e w5 ⟨⟨v, rfl⟩, chv2, cs2, V2, L2, h2, hl2, hr2⟩; have HT2 := hid h2; have HL2 := hid hl2; have HR2 := hid hr2; clear h2 hl2 hr2)
            go_roundw
            case rel => first | exact ⟨k + 1, _, _, _, _, by omega, by go_num, hid ⟨HT2.out, by have := HL2.out; have := HI.out.2.1; omega, HR2.out k HI.out.2.2⟩⟩ | ((repeat apply Exists.intro); refine And.intro ?_ rfl; exact ⟨k + 1, _, _, _, _, by omega, by go_num, hid ⟨HT2.out, by have := HL2.out; have := HI.out.2.1; omega, HR2.out k HI.out.2.2⟩⟩)
            case measure => simp [RowKit.intOf]; omega
          · have hke : k = cs.length := by omega
            subst hke
            obtain ⟨w4, hw4⟩ : ∃ x, x = wr := ⟨_, rfl⟩
            subst hw4
            have hr1 : ∀ r ∈ L, r.length ≤ 1000000 := fun r hr => by have := HI.out.2.2 r hr; omega
            have HAL := hid (all_any HG.out (by omega) HI.out.1 hr1 tick)
            have hlen : (allT l L tick).length = l.length := by simp [allT]
            have HCLO0 := hid (fun (w : World) (hk : Same w4 w) => closed_any HG.out (by omega) (HI.out.1.more hk) hr1 tick)
            generalize allT l L tick = ts at *
            have HLN := hid hlen
            unfold TT at HAL
            clear hr1 hlen
            go_wp2_with (go_at_call 9; (with_reducible refine HAL.out.mono ?_); rintro e w5 ⟨R, rfl, hRB, hk5, _⟩; have HRB := hid hRB; have HK45 := hid hk5; clear hRB hk5; rw [HLN.out])
            rw [← HLN.out]
            have HK35 := hid ((HK3.out.then HI.out.1.same).then HK45.out)
            have HG5 := hid (HG.out.same (HI.out.1.same.then HK45.out))
            have HTS := hid (row_sl HRB.out (show (icellsC ts).length = ts.length by simp [icellsC]))
            have HCLO := hid (fun (w : World) (hk : Same w5 w) => HCLO0.out w (HK45.out.then hk))
            have htl : ts.length ≤ 24 := by have := HLN.out; omega
            clear HAL HCLO0 HI
            go_loopw [69] (fun i wr => ∃ a : Nat, a ≤ 8 ∧ i = .int .i64 a ∧ Hid (Same w5 wr)) (fun i _ => 8 - (RowKit.intOf i).toNat)
            case atStart => exact ⟨0, by omega, rfl, hid (Keep.refl _ _)⟩
            case round =>
              obtain ⟨a, ha, rfl, HA⟩ := hrel
              by_cases ha8 : a < 8
              · have hi0 : (0 : Int) ≤ (a : Int) := Int.natCast_nonneg _
                have hi1 : (a : Int) < 8 := by omega
                obtain ⟨wo, hwo⟩ : ∃ x, x = wr := ⟨_, rfl⟩
                subst hwo
                have hka : Same w5 (wo.alloc (.cells #[.int .i64 (a : Int)] 3)) := HA.out.alloc _
                have HSA := hid (fun (w : World) => show Sl (w.alloc (.cells #[.int .i64 (a : Int)] 3)) (fun _ => False) 1 (some ⟨w.heap.size, 0, none⟩) 1 (icellsC [(a : Int)]) from Sl.of_blk (size := 1) (n := 1) (Av := fun _ => False) (Blk.made w 3 #[.int .i64 (a : Int)]) rfl (fun f => f))
                have HFR := hid (from_any (wo.alloc (.cells #[.int .i64 (a : Int)] 3)) g 8 l E cE po pi (HG5.out.same hka) (by omega) (by omega) HOK.out (some ⟨R, 0, none⟩) ts.length ts (HTS.out.same hka) (by omega) (some ⟨wo.heap.size, 0, none⟩) 1 a ha8 (HSA.out wo))
                unfold SearchF at HFR
                have HVE := hid (fun (w : World) (hk : Same w5 w) (R2 : Nat) (D2 : Nat → Int) (hR : Blk w R2 2 (distL 8 D2).toArray) (hD : IsDist (wgF 8 l (ttL ts l.length)) a D2) =>
                  verify_any (w.alloc (.cells #[.int .i64 (a : Int)] 3)) g 8 l E cE po pi (HG5.out.same (hk.alloc _)) (by omega) (by omega) HOK.out (some ⟨R, 0, none⟩) ts.length ts (HTS.out.same (hk.alloc _)) (by omega) (some ⟨w.heap.size, 0, none⟩) 1 a ha8 (HSA.out w) R2 D2 (hR.alloc _) hD)
                have HKA := hid hka
                clear hka
                go_wp2_with (first
                  | (go_at_call 10; (with_reducible refine HFR.out.mono ?_); rintro e w6 ⟨R2, D2, rfl, hR2, hD2, hk6, _⟩; have HK6 := hid (HKA.out.then hk6); have xa : w6.cell? ⟨R2, a, none⟩ = some (.int .i64 0) := (hR2.at_ a).trans (by simp [distL_at _ ha8, hD2.d0]); have HV6 := hid (HVE.out w6 HK6.out R2 D2 hR2 hD2); have HR6 := hid hR2; have HD2 := hid hD2; clear hR2 hD2 hk6)
                  | (go_at_call 11; (with_reducible refine HV6.out.mono ?_); rintro e w7 ⟨rfl, hk7⟩; have HR2 := hid ((HR6.out.alloc (.cells #[.int .i64 (a : Int)] 3)).keep hk7 (fun f => f)); have HK57 := hid ((HK6.out.alloc (.cells #[.int .i64 (a : Int)] 3)).then hk7); clear hk7))
                clear HVE HFR HSA HKA
                go_loopw [96] (fun i wr => ∃ b : Nat, b ≤ 8 ∧ i = .int .i64 b ∧ Hid (Same w7 wr)) (fun i _ => 8 - (RowKit.intOf i).toNat)
                case atStart => exact ⟨0, by omega, rfl, hid (Keep.refl _ _)⟩
                case round =>
                  obtain ⟨b, hb, rfl, HB⟩ := hrel
                  by_cases hb8 : b < 8
                  · have hi0 : (0 : Int) ≤ (b : Int) := Int.natCast_nonneg _
                    have hi1 : (b : Int) < 8 := by omega
                    have hk57 := HK57.out.then HB.out
                    have HPA := hid (path_any wr g 8 l E cE po pi (HG5.out.same hk57) (by omega) (by omega) HOK.out (some ⟨R, 0, none⟩) ts.length ts (HTS.out.same hk57) (by omega) a b (by omega) hb8)
                    have HDB := hid ((HR2.out.keep HB.out (fun f => f)).at_ b)
                    have HD57 := hid hk57
                    clear hk57
                    go_wp2_with fail
                    (with_reducible refine HPA.out.mono ?_)
                    rintro e w9 ⟨D', hd', hk9, hP⟩
                    rcases hP with ⟨hinf, rfl⟩ | ⟨hfin, wA, wC, P, nu, rfl, hsl, hPl, hW, hfit⟩
                    · have hdb := path_none (by omega) (by omega) HOK.out HD2.out hd' hinf
                      have xb : w9.cell? ⟨R2, b, none⟩ = some (.int .i64 4611686018427387904) := (hk9.cell (range_lt (HDB.out.trans (by simp [distL_at _ hb8]; rfl))) (fun f => f)).trans (HDB.out.trans (by simp [distL_at _ hb8, hdb]; rfl))
                      have HK9 := hid hk9
                      clear hd' hinf hdb hk9
                      go_wp2_with fail
                      go_roundw
                      case rel => first | exact ⟨b + 1, by omega, by go_num, hid (HB.out.then HK9.out)⟩ | ((repeat apply Exists.intro); refine And.intro ?_ rfl; exact ⟨b + 1, by omega, by go_num, hid (HB.out.then HK9.out)⟩)
                      case measure => simp [RowKit.intOf]; omega
                    · obtain ⟨q1, q2, q3, q4⟩ := path_law (by omega) (by omega) (by omega) HOK.out HD2.out hd' hW hfit hPl
                      have xb : w9.cell? ⟨R2, b, none⟩ = some (.int .i64 (D2 b)) := (hk9.cell (range_lt (HDB.out.trans (by simp [distL_at _ hb8]; rfl))) (fun f => f)).trans (HDB.out.trans (by simp [distL_at _ hb8]))
                      have HPT := hid (pathTime_any w9 g 8 l E cE po pi (HG5.out.same (HD57.out.then hk9)) (by omega) (by omega) (some ⟨R, 0, none⟩) ts.length ts (HTS.out.same (HD57.out.then hk9)) (by omega) wA wC P hsl hPl a b (by omega) (by omega) nu hW q4)
                      have HK9 := hid hk9
                      rw [q1] at HPT
                      rw [q2]
                      clear hd' hk9 q1 q2 q4 hfit hW hsl hfin
                      generalize D2 b = db at *
                      have hd5 : decide (db < 4611686018427387904) = true := decide_eq_true q3
                      go_wp2_with (go_at_call 13; (with_reducible refine HPT.out.mono ?_); rintro e w10 ⟨rfl, hk10⟩; have HK10 := hid hk10; clear hk10)
                      go_roundw
                      case rel => first | exact ⟨b + 1, by omega, by go_num, hid ((HB.out.then HK9.out).then HK10.out)⟩ | ((repeat apply Exists.intro); refine And.intro ?_ rfl; exact ⟨b + 1, by omega, by go_num, hid ((HB.out.then HK9.out).then HK10.out)⟩)
                      case measure => simp [RowKit.intOf]; omega
                  · have hbe : b = 8 := by omega
                    subst hbe
                    go_wp2_with fail
                    go_roundw
                    case rel => first | exact ⟨a + 1, by omega, by go_num, hid (HK57.out.then HB.out)⟩ | ((repeat apply Exists.intro); refine And.intro ?_ rfl; exact ⟨a + 1, by omega, by go_num, hid (HK57.out.then HB.out)⟩)
                    case measure => simp [RowKit.intOf]; omega
              · have ha8 : a = 8 := by omega
                subst ha8
                have HCL := hid (HCLO.out wr HA.out)
                unfold ClosedPost at HCL
                go_wp2_with (go_at_call 14; (with_reducible refine HCL.out.mono ?_); rintro e w8 ⟨CA, cc, rfl, hsc, hk8⟩; have HSC := hid hsc; have HK8 := hid (HA.out.then hk8); clear hsc hk8)
                have HCM := hid (fun x hx => closedL_mem (ts := ts) (k := ts.length) (x := x) hx)
                have hcl := closedL_le ts ts.length
                generalize closedL ts ts.length = cl at *
                go_loopw [150] (fun i wr => ∃ k : Nat, k ≤ cl.length ∧ i = .int .i64 k ∧ Hid (Same w8 wr)) (fun i _ => cl.length - (RowKit.intOf i).toNat)
                case atStart => exact ⟨0, Nat.zero_le _, rfl, hid (Keep.refl _ _)⟩
                case round =>
                  obtain ⟨k, hk, rfl, HB⟩ := hrel
                  by_cases hkn : k < cl.length
                  · obtain ⟨x, hx⟩ := get_some hkn
                    obtain ⟨b1, o1, rfl, hb1, x0⟩ := ints_at (HSC.out.same HB.out) hx
                    obtain ⟨i, hi, rfl, hti⟩ := HCM.out x (List.mem_of_getElem? hx)
                    have hi0 : (0 : Int) ≤ (k : Int) := Int.natCast_nonneg _
                    have hi1 : (k : Int) < (cl.length : Int) := by omega
                    have hj0 : (0 : Int) ≤ (i : Int) := Int.natCast_nonneg _
                    have hj1 : (i : Int) < (ts.length : Int) := by omega
                    have d3 : decide ((i : Int) < 0) = false := decide_eq_false (by omega)
                    have d4 : decide ((ts.length : Int) ≤ (i : Int)) = false := decide_eq_false (by omega)
                    have y0 : wr.cell? ⟨R, i, none⟩ = some (.int .i64 4611686018427387904) := ((HRB.out.keep (HK8.out.then HB.out) (fun f => f)).at_ i).trans (by simp [icellsC, hti]; rfl)
                    clear hx hti
                    go_wp2_with fail
                    go_roundw
                    case rel => first | exact ⟨k + 1, by omega, by go_num, HB⟩ | ((repeat apply Exists.intro); refine And.intro ?_ rfl; exact ⟨k + 1, by omega, by go_num, HB⟩)
                    case measure => simp [RowKit.intOf]; omega
                  · have hke : k = cl.length := by omega
                    subst hke
                    go_wp2_with fail
                    go_ret
                    exact ⟨rfl, HK35.out.then (HK8.out.then HB.out)⟩
  · have d1 : decide (l.length ≤ 24) = false := decide_eq_false h1
    go_wp2_with (first | (go_at_call 4; (with_reducible refine HAW.out.mono ?_); rintro e w1 ⟨rfl, hk1⟩; have HK1 := hid hk1; clear hk1) | (go_at_call 5; (with_reducible refine (HF.out _).mono ?_); rintro e w2 ⟨rfl, rfl⟩; rw [d1]))
    go_ret
    exact ⟨rfl, HK1.out⟩
end Go.Proofs.Ytmllpapkgfclkaa

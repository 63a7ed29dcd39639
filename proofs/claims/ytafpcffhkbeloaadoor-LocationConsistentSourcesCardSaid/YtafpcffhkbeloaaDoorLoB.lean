import Derived.Test.YtafpcffhkbeloaaDoorLoAb
namespace Go.Proofs.YtafpcffhkbeloaaDoor
open Go.RowKit

theorem setStep_len (o : List Int) (x : Int) : (setStep o x).length ≤ o.length + 1 := by
  have hi : ∀ l : List Int, (insR x l).length = l.length + 1 := by
    intro l
    induction l with
    | nil => rfl
    | cons a l ih => rw [insR]; split <;> simp [ih]
  rw [setStep]; split
  · omega
  · rw [hi]; omega
theorem setL_len (l : List Int) (k : Nat) (hk : k ≤ l.length) : (setL (l.take k)).length ≤ k := by
  induction k with
  | zero => simp [setL]
  | succ k ih =>
    obtain ⟨x, hx⟩ : ∃ x, l[k]? = some x := ⟨_, List.getElem?_eq_getElem (by omega)⟩
    have := setStep_len (setL (l.take k)) x
    rw [setL_snoc hx]; have := ih (by omega); omega
theorem insTo_len (x : Int) (l : List Int) (j : Nat) (h : j ≤ l.length) : (insTo x l j).length ≤ j + 1 := by
  induction j with
  | zero => simp [insTo, anyGt]
  | succ j ih =>
    rw [insTo]; split
    · have hi : ∀ l : List Int, (insR x l).length = l.length + 1 := by
        intro l
        induction l with
        | nil => rfl
        | cons a l ih => rw [insR]; split <;> simp [ih]
      rw [hi, List.length_take]; omega
    · rw [List.length_take]; omega
def InsPost (wr : World) (x : Int) (o : List Int) (j : Nat) (D2 : Option Addr) (d2 : Nat) (wq : World) : Prop := Own wq wr.heap.size 3 1 (.slice D2 (insTo x o j).length d2) (insTo x o j).length (icells (insTo x o j)) ∧ Same wr wq
theorem lt_cell {w : World} {b o : Nat} {u : Value} (h : w.cell? ⟨b, o, none⟩ = some u) : b < w.heap.size := by
  cases hb : w.heap[b]? with
  | none => unfold World.cell? at h; rw [hb] at h; cases h
  | some _ => exact (Array.getElem?_eq_some_iff.1 hb).1
set_option maxRecDepth 100000 in
set_option maxHeartbeats 16000000 in
theorem set_any (w : World) (Av : Nat → Prop) (A : Option Addr) (c : Nat) (l : List Int) (hl : Sl w Av 1 A l.length (icells l)) (hn : l.length ≤ 1000) :
    Calls Tryd.prog 24 #[.slice A l.length c] w (IntsPost w (setL l)) := by
  have HL := hid hl
  clear hl
  go_enter Tryd.func24, Tryd.ntmps24
  go_wp2_with fail
  go_loopw [3, 4] (fun v i wr => ∃ (k : Nat) (D : Option Addr) (d : Nat), k ≤ l.length ∧ i = .int .i64 k ∧ v = .slice D (setL (l.take k)).length d ∧ Hid (Sl wr (· < w.heap.size) 1 D (setL (l.take k)).length (icells (setL (l.take k))) ∧ Same w wr)) (fun _ i _ => l.length - (RowKit.intOf i).toNat)
  case atStart => exact ⟨0, none, 0, by omega, rfl, rfl, hid ⟨Sl.nil _ _ _ _, Keep.refl _ _⟩⟩
  case round =>
    obtain ⟨k, D, d, hk, rfl, rfl, HI⟩ := hrel
    by_cases hlt : k < l.length
    · obtain ⟨x, hx⟩ := get_some hlt
      have hk1 : (k : Int) < (l.length : Int) := by omega
      obtain ⟨b1, o1, rfl, _, q1⟩ := ints_in (HL.out.same HI.out.2) hx
      have hol := setL_len l k (by omega)
      have HST := hid (setL_snoc hx)
      have HXL := hid hx
      clear hx
      generalize setL (l.take k) = O at *
      have HHO := hid (has07_any wr _ D d O HI.out.1 (by omega) x)
      obtain ⟨wo, hwo⟩ : ∃ z, z = wr := ⟨_, rfl⟩
      by_cases h0 : x < 0
      · have HS1 := hid (show setL (l.take (k + 1)) = O from by rw [HST.out, setStep, if_pos (.inl h0)])
        clear hwo
        go_wp2_with fail
        go_roundw
        case rel => first | exact ⟨k + 1, D, d, by omega, by go_num, by rw [HS1.out], hid (by rw [HS1.out]; exact HI.out)⟩ | ((repeat apply Exists.intro); refine And.intro ?_ rfl; exact ⟨k + 1, D, d, by omega, by go_num, by rw [HS1.out], hid (by rw [HS1.out]; exact HI.out)⟩)
        case measure => simp [RowKit.intOf]; omega
      · have h0 : 0 ≤ x := by omega
        by_cases h1 : 4096 ≤ x
        · have HS1 := hid (show setL (l.take (k + 1)) = O from by rw [HST.out, setStep, if_pos (.inr (.inl h1))])
          clear hwo
          go_wp2_with fail
          go_roundw
          case rel => first | exact ⟨k + 1, D, d, by omega, by go_num, by rw [HS1.out], hid (by rw [HS1.out]; exact HI.out)⟩ | ((repeat apply Exists.intro); refine And.intro ?_ rfl; exact ⟨k + 1, D, d, by omega, by go_num, by rw [HS1.out], hid (by rw [HS1.out]; exact HI.out)⟩)
          case measure => simp [RowKit.intOf]; omega
        · have h1 : x < 4096 := by omega
          cases hc : O.contains x
          rotate_left 1
          · have HS1 := hid (show setL (l.take (k + 1)) = O from by rw [HST.out, setStep, if_pos (.inr (.inr (List.contains_iff_mem.1 hc)))])
            rw [hc] at HHO
            clear hc hwo
            go_wp2_with fail
            (with_reducible refine HHO.out.mono ?_)
            rintro e w3 ⟨rfl, rfl⟩
            go_wp2_with fail
            go_roundw
            case rel => first | exact ⟨k + 1, D, d, by omega, by go_num, by rw [HS1.out], hid (by rw [HS1.out]; exact HI.out)⟩ | ((repeat apply Exists.intro); refine And.intro ?_ rfl; exact ⟨k + 1, D, d, by omega, by go_num, by rw [HS1.out], hid (by rw [HS1.out]; exact HI.out)⟩)
            case measure => simp [RowKit.intOf]; omega
          · have HS1 := hid (show setL (l.take (k + 1)) = insR x O from by
              rw [HST.out, setStep, if_neg (by rintro (h | h | h); omega; omega; rw [List.contains_iff_mem.2 h] at hc; cases hc)])
            rw [hc] at HHO
            clear hc
            go_wp2_with fail
            (with_reducible refine HHO.out.mono ?_)
            rintro e w3 ⟨rfl, rfl⟩
            subst hwo
            have HWW := hid HI.out.2
            have HO := hid HI.out.1
            have hszo := HI.out.2.size
            have q1 : wo.cell? ⟨b1, o1 + k, none⟩ = some (.int .i64 x) := q1
            have HQ1 := hid (fun W (hk : Same wo W) => (show W.cell? ⟨b1, o1 + k, none⟩ = some (.int .i64 x) from by rw [hk.cell (lt_cell q1) (fun f => f)]; exact q1))
            clear q1 HI
            go_wp2_with fail
            go_loopw [5, 6, 7] (fun v p i wr => ∃ (j : Nat) (D2 : Option Addr) (d2 : Nat), j ≤ O.length ∧ i = .int .i64 j ∧ p = .bool (anyGt x (O.take j)) ∧ v = .slice D2 (insTo x O j).length d2 ∧ Hid (InsPost wo x O j D2 d2 wr)) (fun _ _ i _ => O.length - (RowKit.intOf i).toNat)
            case atStart => exact ⟨0, none, 0, by omega, rfl, by simp [anyGt], by simp [insTo, anyGt], hid (by rw [InsPost]; simp only [insTo, anyGt, List.take_zero, List.any_nil, Bool.false_eq_true, if_false]; exact ⟨Own.nil _ _ _ _, Keep.refl _ _⟩)⟩
            case round =>
              obtain ⟨j, D2, d2, hj, rfl, rfl, rfl, HJ⟩ := hrel
              have hil := insTo_len x O j hj
              obtain ⟨hjo, hjk⟩ := HJ.out
              have HJO := hid hjo
              have HJK := hid hjk
              have hszj := hjk.size
              have q1 := HQ1.out wr hjk
              by_cases hlj : j < O.length
              · obtain ⟨a, ha⟩ := get_some hlj
                have hj1 : (j : Int) < (O.length : Int) := by omega
                obtain ⟨b2, o2, hD, _, q2⟩ := ints_in (HO.out.same hjk) ha
                have HB2 := hid (show b2 < wo.heap.size from by
                  obtain ⟨b3, o3, e3, hb3, _⟩ := ints_in HO.out ha
                  rw [hD] at e3; cases e3; exact hb3)
                subst hD
                have HAG := hid (anyGt_snoc (x := x) ha)
                have HIT := hid (insTo_snoc (x := x) ha)
                clear ha hjo hjk
                have HQ2 := hid (fun W (hk : Same wr W) => (show W.cell? ⟨b2, o2 + j, none⟩ = some (.int .i64 a) from by rw [hk.cell (lt_cell q2) (fun f => f)]; exact q2))
                cases hp : anyGt x (O.take j)
                · rw [hp] at HAG HIT
                  clear hp
                  by_cases hxa : x < a
                  · have hd : decide (x < a) = true := by simp [hxa]
                    rw [hd] at HAG
                    simp only [hxa, and_self, if_true] at HIT
                    simp only [Bool.or_true] at HAG
                    clear hd
                    generalize insTo x O j = I at *
                    go_upto_region 11 with fail
                    go_quiet (fail)
                    go_upto_region 14 with (at_builtin; refine EInt.law (.tmp 53) (.tmp 58) (.slice D2 (I).length d2) (some ⟨(wr.drewN nq).heap.size, 0, none⟩) 1 1 rfl rfl rfl rfl wo.heap.size (I).length _ [.int .i64 (x)] (HJO.out.keep (((Keep.refl (fun _ => False) wr).drewN nq).alloc _) (fun _ _ _ f => f)) rfl (fun _ => ⟨_, rfl, src_new rfl⟩) (by simp [Value.oneCell']) (by first | omega | (simp; omega)) (by unfold maxLen; first | omega | (simp; omega)) (by first | omega | (simp; omega)) ?_; intro A8 c8 w8 hown8 hg8; have HOW8 := hid hown8; have HG8 := hid hg8; clear hown8 hg8)
                    have HK8 := hid (((HJK.out.drewN _).alloc _).grown HG8.out (fun g e hl => by have := HJO.out.block g e; omega))
                    have hsz8 := HK8.out.size
                    have q2' : w8.cell? ⟨b2, o2 + j, none⟩ = some (.int .i64 a) := by
                      have hk := (((Keep.refl (fun i => wo.heap.size ≤ i) wr).drewN nq).alloc (.cells #[.int .i64 x] 3)).grown HG8.out (fun g e hl => HJO.out.block g e)
                      have hb2 := (HO.out.same HJK.out)
                      rw [hk.cell (lt_cell q2) (by have := HB2.out; show ¬ wo.heap.size ≤ b2; omega)]; exact q2
                    have HL8 := hid (show I.length + 1 ≤ j + 2 by omega)
                    go_wp2_with (at_builtin; refine EInt.law (.tmp 60) (.tmp 65) (.slice A8 (I.length + 1) c8) (some ⟨(w8).heap.size, 0, none⟩) 1 1 rfl rfl rfl rfl wo.heap.size (I.length + 1) _ [.int .i64 (a)] (HOW8.out.keep ((Keep.refl (fun _ => False) w8).alloc _) (fun _ _ _ f => f)) rfl (fun _ => ⟨_, rfl, src_new rfl⟩) (by simp [Value.oneCell']) (by first | omega | (simp; omega)) (by unfold maxLen; first | omega | (simp; omega)) (by first | omega | (simp; omega)) ?_; intro A9 c9 w9 hown9 hg9; have HOW9 := hid hown9; have HG9 := hid hg9; clear hown9 hg9)
                    go_roundw
                    case rel =>
                      have HFIN := hid (show InsPost wo x O (j + 1) A9 c9 w9 from by rw [InsPost, HIT.out]; exact ⟨by simpa [icells] using HOW9.out, ((HK8.out.alloc _).grown HG9.out (fun g e hl => by have := HOW8.out.block g e; omega))⟩)
                      first
                      | exact ⟨j + 1, A9, c9, by omega, by go_num, by rw [HAG.out], by rw [HIT.out]; simp, HFIN⟩
                      | ((repeat apply Exists.intro); refine And.intro ?_ rfl; exact ⟨j + 1, A9, c9, by omega, by go_num, by rw [HAG.out], by rw [HIT.out]; simp, HFIN⟩)
                    case measure => simp [RowKit.intOf]; omega
                  · have hd : decide (x < a) = false := by simp; omega
                    have hxa : a ≤ x := by omega
                    rw [hd] at HAG
                    simp only [Bool.or_false] at HAG
                    have hna : ¬ (False = False ∧ x < a) := by omega
                    simp only [show ¬ x < a by omega, and_false, if_false] at HIT
                    clear hd hna
                    generalize insTo x O j = I at *
                    go_upto_region 11 with fail
                    go_quiet (fail)
                    go_wp2_with (at_builtin; refine EInt.law (.tmp 60) (.tmp 65) (.slice D2 (I).length d2) (some ⟨(wr.drewN nq).heap.size, 0, none⟩) 1 1 rfl rfl rfl rfl wo.heap.size (I).length _ [.int .i64 (a)] (HJO.out.keep (((Keep.refl (fun _ => False) wr).drewN nq).alloc _) (fun _ _ _ f => f)) rfl (fun _ => ⟨_, rfl, src_new rfl⟩) (by simp [Value.oneCell']) (by first | omega | (simp; omega)) (by unfold maxLen; first | omega | (simp; omega)) (by first | omega | (simp; omega)) ?_; intro A9 c9 w9 hown9 hg9; have HOW9 := hid hown9; have HG9 := hid hg9; clear hown9 hg9)
                    go_roundw
                    case rel =>
                      have HFIN := hid (show InsPost wo x O (j + 1) A9 c9 w9 from by rw [InsPost, HIT.out]; exact ⟨by simpa [icells] using HOW9.out, (((HJK.out.drewN _).alloc _).grown HG9.out (fun g e hl => by have := HJO.out.block g e; omega))⟩)
                      first
                      | exact ⟨j + 1, A9, c9, by omega, by go_num, by rw [HAG.out], by rw [HIT.out]; simp, HFIN⟩
                      | ((repeat apply Exists.intro); refine And.intro ?_ rfl; exact ⟨j + 1, A9, c9, by omega, by go_num, by rw [HAG.out], by rw [HIT.out]; simp, HFIN⟩)
                    case measure => simp [RowKit.intOf]; omega
                · rw [hp] at HAG HIT
                  clear hp
                  simp only [Bool.true_or] at HAG
                  simp only [Bool.true_eq_false, false_and, if_false] at HIT
                  generalize insTo x O j = I at *
                  go_upto_region 11 with fail
                  go_quiet (fail)
                  go_wp2_with (at_builtin; refine EInt.law (.tmp 60) (.tmp 65) (.slice D2 (I).length d2) (some ⟨(wr.drewN nq).heap.size, 0, none⟩) 1 1 rfl rfl rfl rfl wo.heap.size (I).length _ [.int .i64 (a)] (HJO.out.keep (((Keep.refl (fun _ => False) wr).drewN nq).alloc _) (fun _ _ _ f => f)) rfl (fun _ => ⟨_, rfl, src_new rfl⟩) (by simp [Value.oneCell']) (by first | omega | (simp; omega)) (by unfold maxLen; first | omega | (simp; omega)) (by first | omega | (simp; omega)) ?_; intro A9 c9 w9 hown9 hg9; have HOW9 := hid hown9; have HG9 := hid hg9; clear hown9 hg9)
                  go_roundw
                  case rel =>
                    have HFIN := hid (show InsPost wo x O (j + 1) A9 c9 w9 from by rw [InsPost, HIT.out]; exact ⟨by simpa [icells] using HOW9.out, (((HJK.out.drewN _).alloc _).grown HG9.out (fun g e hl => by have := HJO.out.block g e; omega))⟩)
                    first
                    | exact ⟨j + 1, A9, c9, by omega, by go_num, by rw [HAG.out], by rw [HIT.out]; simp, HFIN⟩
                    | ((repeat apply Exists.intro); refine And.intro ?_ rfl; exact ⟨j + 1, A9, c9, by omega, by go_num, by rw [HAG.out], by rw [HIT.out]; simp, HFIN⟩)
                  case measure => simp [RowKit.intOf]; omega
              · obtain rfl : j = O.length := by omega
                have hall := insTo_all (x := x) (l := O)
                rw [List.take_of_length_le (Nat.le_refl _)]
                clear hjo hjk
                cases hp : anyGt x O
                · have HAL := hid (show insTo x O O.length ++ [x] = insR x O from by rw [← hall, hp]; simp)
                  clear hp hall
                  generalize insTo x O O.length = I at *
                  go_wp2_with (at_builtin; refine EInt.law (.tmp 69) (.tmp 74) (.slice D2 (I).length d2) (some ⟨(wr).heap.size, 0, none⟩) 1 1 rfl rfl rfl rfl wo.heap.size (I).length _ [.int .i64 (x)] (HJO.out.keep ((Keep.refl (fun _ => False) wr).alloc _) (fun _ _ _ f => f)) rfl (fun _ => ⟨_, rfl, src_new rfl⟩) (by simp [Value.oneCell']) (by first | omega | (simp; omega)) (by unfold maxLen; first | omega | (simp; omega)) (by first | omega | (simp; omega)) ?_; intro A9 c9 w9 hown9 hg9; have HOW9 := hid hown9; have HG9 := hid hg9; clear hown9 hg9)
                  have HFIN := hid (show Sl w9 (· < w.heap.size) 1 A9 (setL (l.take (k + 1))).length (icells (setL (l.take (k + 1)))) ∧ Same w w9 from by
                    rw [HS1.out, ← HAL.out]
                    refine ⟨?_, ((HWW.out.then HJK.out).alloc _).grown HG9.out (fun g e hl => by have := HJO.out.block g e; omega)⟩
                    have := HOW9.out.sl (Av := (· < w.heap.size)) (fun g hg => by show ¬ g < w.heap.size; omega)
                    simpa [icells] using this)
                  have HLN := hid (show I.length + 1 = (setL (l.take (k + 1))).length from by rw [HS1.out, ← HAL.out]; simp)
                  rw [HLN.out]
                  go_roundw
                  case rel =>
                    first
                    | exact ⟨k + 1, A9, c9, by omega, by go_num, rfl, HFIN⟩
                    | ((repeat apply Exists.intro); refine And.intro ?_ rfl; exact ⟨k + 1, A9, c9, by omega, by go_num, rfl, HFIN⟩)
                  case measure => simp [RowKit.intOf]; omega
                · have HAL := hid (show insTo x O O.length = insR x O from by rw [← hall, hp]; simp)
                  clear hp hall
                  generalize insTo x O O.length = I at *
                  go_wp2_with fail
                  have HFIN := hid (show Sl wr (· < w.heap.size) 1 D2 (setL (l.take (k + 1))).length (icells (setL (l.take (k + 1)))) ∧ Same w wr from by
                    rw [HS1.out, ← HAL.out]
                    exact ⟨HJO.out.sl (Av := (· < w.heap.size)) (fun g hg => by show ¬ g < w.heap.size; omega), HWW.out.then HJK.out⟩)
                  have HLN := hid (show I.length = (setL (l.take (k + 1))).length from by rw [HS1.out, ← HAL.out])
                  rw [HLN.out]
                  go_roundw
                  case rel =>
                    first
                    | exact ⟨k + 1, D2, d2, by omega, by go_num, rfl, HFIN⟩
                    | ((repeat apply Exists.intro); refine And.intro ?_ rfl; exact ⟨k + 1, D2, d2, by omega, by go_num, rfl, HFIN⟩)
                  case measure => simp [RowKit.intOf]; omega
    · obtain rfl : k = l.length := by omega
      have hI := HI.out
      rw [List.take_of_length_le (Nat.le_refl _)] at hI ⊢
      have HI2 := hid hI
      clear hI
      go_wp2_with fail
      go_ret
      exact ⟨D, d, rfl, HI2.out.1, HI2.out.2⟩
end Go.Proofs.YtafpcffhkbeloaaDoor

import Derived.Test.YtmkcphhgimlkgaaConfD
import Derived.Deep.RegionHeld3
namespace Go.Proofs.Ytmkcphhgimlkgaa
open Go.RowKit Go.PlainAid

section
variable (w : World)

/-! ## validParameters -/
theorem pa_at {w : World} {g : Nat} {t : TypeId} {l : List PA} (h : Blk w g t (pacells l).toArray) {k : Nat} {a : PA} (ha : l[k]? = some a) : w.cell? ⟨g, k * 5, none⟩ = some (.string a.name) ∧
    w.cell? ⟨g, k * 5 + 1, none⟩ = some (.int .i64 a.lo) ∧ w.cell? ⟨g, k * 5 + 2, none⟩ = some (.int .i64 a.hi) ∧ w.cell? ⟨g, k * 5 + 3, none⟩ = some (.func (.func a.G) #[] #[.pointer (some ⟨a.b, 0, none⟩)]) ∧
    w.cell? ⟨g, k * 5 + 4, none⟩ = some (.func (.func (a.G + 1)) #[] #[.pointer (some ⟨a.b, 0, none⟩)]) := by
  have g := fun j (hj : j < 5) u (hu : a.cells[j]? = some u) => (h.at_ (k * 5 + j)).trans (show (pacells l).toArray[k * 5 + j]? = some u by
    rw [List.getElem?_toArray, show (pacells l)[k * 5 + j]? = (l[k]?).bind (fun a => a.cells[j]?) from flat_get PA.cells 5 (fun _ => rfl) l k j hj, ha]; exact hu)
  exact ⟨g 0 (by omega) _ rfl, g 1 (by omega) _ rfl, g 2 (by omega) _ rfl, g 3 (by omega) _ rfl, g 4 (by omega) _ rfl⟩
theorem getd_any (k g b f : Nat) (x : Int) (h1 : 0 ≤ k) (h2 : k < 8) (hf : parF[k]? = some f) (hb : w.cell? ⟨b, 0, none⟩ = some (.func (.func f) #[] #[])) (hx : w.cell? ⟨g, k + 5, none⟩ = some (.int .i64 x)) : Calls Try.prog 101 #[.pointer (some ⟨g, 0, none⟩), .pointer (some ⟨b, 0, none⟩)] w fun e w' => e = .returned (.int .i64 x) ∧ w = w' := by
  obtain rfl | rfl | rfl | rfl | rfl | rfl | rfl | rfl : k = 0 ∨ k = 1 ∨ k = 2 ∨ k = 3 ∨ k = 4 ∨ k = 5 ∨ k = 6 ∨ k = 7 := by omega
  · obtain rfl := Option.some.inj hf
    exact get0_any w g b x hb hx
  · obtain rfl := Option.some.inj hf
    exact get1_any w g b x hb hx
  · obtain rfl := Option.some.inj hf
    exact get2_any w g b x hb hx
  · obtain rfl := Option.some.inj hf
    exact get3_any w g b x hb hx
  · obtain rfl := Option.some.inj hf
    exact get4_any w g b x hb hx
  · obtain rfl := Option.some.inj hf
    exact get5_any w g b x hb hx
  · obtain rfl := Option.some.inj hf
    exact get6_any w g b x hb hx
  · obtain rfl := Option.some.inj hf
    exact get7_any w g b x hb hx
theorem getq_any (k g b f : Nat) (x : Int) (h1 : 8 ≤ k) (h2 : k < 10) (hf : parF[k]? = some f) (hb : w.cell? ⟨b, 0, none⟩ = some (.func (.func f) #[] #[])) (hx : w.cell? ⟨g, k + 5, none⟩ = some (.int .i64 x)) : Calls Try.prog 103 #[.pointer (some ⟨g, 0, none⟩), .pointer (some ⟨b, 0, none⟩)] w fun e w' => e = .returned (.int .i64 x) ∧ w = w' := by
  obtain rfl | rfl : k = 8 ∨ k = 9 := by omega
  · obtain rfl := Option.some.inj hf
    exact get8_any w g b x hb hx
  · obtain rfl := Option.some.inj hf
    exact get9_any w g b x hb hx
theorem par_row (c : CF) {k : Nat} {lo hi : Int} (h : parLH[k]? = some (lo, hi)) : ∃ x, (parsL c)[k]? = some (lo, hi, x) ∧ c.cells.toArray[k + 5]? = some (.int .i64 x) := by
  have hk : k < 10 := (List.getElem?_eq_some_iff.1 h).1
  obtain rfl | rfl | rfl | rfl | rfl | rfl | rfl | rfl | rfl | rfl : k = 0 ∨ k = 1 ∨ k = 2 ∨ k = 3 ∨ k = 4 ∨ k = 5 ∨ k = 6 ∨ k = 7 ∨ k = 8 ∨ k = 9 := by omega
  all_goals (cases Option.some.inj h; exact ⟨_, rfl, rfl⟩)
set_option maxHeartbeats 4000000 in
set_option maxRecDepth 100000 in
theorem validPars_any (g : Nat) (c : CF) (hb : Blk w g 27 c.cells.toArray) : Calls Try.prog 67 #[.pointer (some ⟨g, 0, none⟩)] w fun e w' => e = .returned (.bool (parB c)) ∧ Same w w' := by
  have HB := hid hb
  have HP := hid (fun k a (ha : (parsL c)[k]? = some a) => And.intro (take_all (p := fun x => rngB x.1 x.2.1 x.2.2) ha) (all_no (p := fun x => rngB x.1 x.2.1 x.2.2) ha))
  have hpl : (parsL c).length = 10 := rfl
  have HPL := hid hpl
  have HPB := hid (show parB c = (parsL c).all (fun x => rngB x.1 x.2.1 x.2.2) from rfl)
  have HR := hid (fun k lo hi (h : parLH[k]? = some (lo, hi)) => par_row c h)
  clear hpl hb
  generalize parsL c = L at *
  generalize parB c = pb at *
  go_enter Try.func67, Try.ntmps67
  go_wp2_with fail
  (with_reducible refine (parameters_any _).mono ?_)
  rintro e w1 ⟨gp, l, rfl, hgp, hbp, hpa, hs1⟩
  have HBP := hid hbp
  have HPA := hid hpa
  have HS := hid hs1
  clear hbp hpa hs1 hgp
  go_wp2_with fail
  go_loopw [8] (fun i wr => ∃ k : Nat, k ≤ 10 ∧ i = .int .i64 k ∧ Hid (Same w1 wr ∧ (L.take k).all (fun x => rngB x.1 x.2.1 x.2.2) = true)) (fun i _ => 10 - (RowKit.intOf i).toNat)
  case atStart => exact ⟨0, by omega, rfl, hid ⟨Keep.refl _ w1, by simp⟩⟩
  case round =>
    obtain ⟨k, hk, rfl, HI⟩ := hrel
    by_cases hlt : k < 10
    · obtain ⟨a, ha⟩ := get_some (l := l) (k := k) (by rw [HPA.out.len]; omega)
      obtain ⟨q0, q1, q2, q3, q4⟩ := pa_at (HBP.out.keep HI.out.1 (fun f => f)) ha
      have hbr := (HBP.out.keep HI.out.1 (fun f => f)).lt
      obtain ⟨p1, p2, f, p3, p4, p5⟩ := HPA.out.at_ k a ha
      obtain ⟨x, hx1, hx2⟩ := HR.out k a.lo a.hi p1
      have HX := hid (HP.out k _ hx1)
      have HCB := hid (fun W (hk : Same wr W) => ((HI.out.1.then hk).cell (p := ⟨a.b, 0, none⟩) p5 (fun f => f)).trans p4)
      have HCG := hid (fun W (hk : Same wr W) => show W.cell? ⟨g, k + 5, none⟩ = some (.int .i64 x) from ((HB.out.keep (HS.out.then (HI.out.1.then hk)) (fun f => f)).at_ (k + 5)).trans hx2)
      have HF := hid p3
      clear p1 p3 p4 p5 hx1 hx2 ha
      obtain ⟨nm, lo, hi, G, b⟩ := a
      simp only at q0 q1 q2 q3 q4 p2 HX HCB
      have hk1 : (k : Int) < 10 := by omega
      by_cases h8 : k < 8
      · obtain rfl : G = 101 := by rw [p2, parG, if_pos h8]
        clear p2
        go_wp2_with fail
        (with_reducible refine (getd_any _ k g b f x (by omega) (by omega) HF.out (HCB.out _ (Keep.alloc (Keep.refl _ _) _)) (HCG.out _ (Keep.alloc (Keep.refl _ _) _))).mono ?_)
        rintro e w9 ⟨rfl, rfl⟩
        by_cases i1 : x < lo
        · go_wp2_with fail
          go_ret
          exact ⟨ret_of (congrArg Value.bool (by rw [HPB.out]; exact (HX.out.2 (by simp [rngB]; omega)).symm)), HS.out.then (HI.out.1.alloc _)⟩
        · by_cases i2 : hi < x
          · go_wp2_with fail
            go_ret
            exact ⟨ret_of (congrArg Value.bool (by rw [HPB.out]; exact (HX.out.2 (by simp [rngB]; omega)).symm)), HS.out.then (HI.out.1.alloc _)⟩
          · go_wp2_with fail
            go_roundw
            case rel => exact ⟨k + 1, by omega, by go_num, hid ⟨HI.out.1.alloc _, by rw [HX.out.1, HI.out.2]; simp [rngB]; omega⟩⟩
            case measure => simp [RowKit.intOf]; omega
      · obtain rfl : G = 103 := by rw [p2, parG, if_neg h8]
        clear p2
        go_wp2_with fail
        (with_reducible refine (getq_any _ k g b f x (by omega) (by omega) HF.out (HCB.out _ (Keep.alloc (Keep.refl _ _) _)) (HCG.out _ (Keep.alloc (Keep.refl _ _) _))).mono ?_)
        rintro e w9 ⟨rfl, rfl⟩
        by_cases i1 : x < lo
        · go_wp2_with fail
          go_ret
          exact ⟨ret_of (congrArg Value.bool (by rw [HPB.out]; exact (HX.out.2 (by simp [rngB]; omega)).symm)), HS.out.then (HI.out.1.alloc _)⟩
        · by_cases i2 : hi < x
          · go_wp2_with fail
            go_ret
            exact ⟨ret_of (congrArg Value.bool (by rw [HPB.out]; exact (HX.out.2 (by simp [rngB]; omega)).symm)), HS.out.then (HI.out.1.alloc _)⟩
          · go_wp2_with fail
            go_roundw
            case rel => exact ⟨k + 1, by omega, by go_num, hid ⟨HI.out.1.alloc _, by rw [HX.out.1, HI.out.2]; simp [rngB]; omega⟩⟩
            case measure => simp [RowKit.intOf]; omega
    · obtain rfl : k = 10 := by omega
      have hf := HI.out.2
      rw [List.take_of_length_le (by rw [HPL.out]; omega), ← HPB.out] at hf
      go_wp2_with fail
      go_ret
      exact ⟨ret_of (congrArg Value.bool hf.symm), HS.out.then HI.out.1⟩
end
end Go.Proofs.Ytmkcphhgimlkgaa

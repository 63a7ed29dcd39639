import Derived.Test.YtafpcffhkbeloaaDoorLsD
import Derived.Deep.Cut
import Derived.Test.YtafpcffhkbeloaaDoorLoM
namespace Go.Proofs.YtafpcffhkbeloaaDoor
open Go.RowKit

set_option maxRecDepth 100000 in
set_option maxHeartbeats 32000000 in
theorem sym_any (N : Nat) : ∀ (w : World) (base gb n c : Nat) (f : Arr), Rw w base gb n c f → n ≤ 1000 → KdOk f → ∀ (a m b : Nat), a < m → m < b → b ≤ n → b - a ≤ N → SortedOn f a m → SortedOn f m b → Cross f a m b → ∀ (A M B : Int), A = a → M = m → B = b →
    Calls Tryd.prog 54 #[.slice (some ⟨gb, 0, none⟩) n c, .int .i64 A, .int .i64 M, .int .i64 B, (.func (.func 47) #[] #[])] w (SymPost w base gb n c f a b) := by
  induction N with
  | zero => intro w base gb n c f h hn hkd a m b h1 h2 h3 h4; omega
  | succ N ih =>
    intro w base gb n c f h hn hkd a m b h1 h2 h3 h4 hA hB hc A M B eA eM eB
    subst eA eM eB
    by_cases hone : m = a + 1
    · subst hone
      have := sym_one w base gb n c f h hn hkd a b h2 h3 hB hc
      rwa [show (a : Int) + 1 = ((a + 1 : Nat) : Int) from by omega] at this
    by_cases htwo : b = m + 1
    · subst htwo
      have := sym_two w base gb n c f h hn hkd a m (by omega) h3 hA hc
      rwa [show (m : Int) + 1 = ((m + 1 : Nat) : Int) from by omega] at this
    have HR := hid h
    have HKD := hid hkd
    have HS := hid (And.intro hA (And.intro hB hc))
    have HIH := hid ih
    clear h hkd hA hB hc ih
    have o1 : (((m : Int) - (a : Int)) == 1) = false := by rw [beq_eq_false_iff_ne]; omega
    have o2 : (((b : Int) - (m : Int)) == 1) = false := by rw [beq_eq_false_iff_ne]; omega
    unfold SymPost
    go_enter Tryd.func54, Tryd.ntmps54
    go_upto_region 27 with fail
    obtain ⟨mid, hmid⟩ : ∃ mid, mid = (a + b) / 2 := ⟨_, rfl⟩
    obtain ⟨nn, hnn⟩ : ∃ nn, nn = mid + m := ⟨_, rfl⟩
    have em : ((a : Int) + (b : Int)) / 2 = (mid : Int) := by omega
    have en : (mid : Int) + (m : Int) = (nn : Int) := by omega
    have HMN := hid (And.intro hmid hnn)
    rw [em, en]
    have hm1 : mid ≤ 1000 := by omega
    have hm2 : nn ≤ 2000 := by omega
    clear em en hmid hnn o1 o2
    go_cut [140] from 138 to 140 (fun u w' => ∃ g : Bool, u = .bool g ∧ Hid (g = decide (mid < m) ∧ w' = w))
    case first =>
      go_wp2_with fail
      go_meet
      exact ⟨decide (mid < m), by simp, hid ⟨rfl, rfl⟩⟩
    case rest =>
    obtain ⟨g, rfl, hG⟩ := hcut
    obtain ⟨hg, hW⟩ := hG.out
    rw [hW]
    have HG := hid hg
    clear hG hg hW
    go_upto_if 140 with fail
    go_cut [20, 21] from 141 to 146 (fun u20 u21 w' => ∃ lo hi : Nat, u20 = .int .i64 lo ∧ u21 = .int .i64 hi ∧ Hid (lo = (if m > mid then nn - b else a) ∧ hi = (if m > mid then mid else m) ∧ w' = w))
    case first =>
      cases g
      · have hg : ¬ mid < m := of_decide_eq_false HG.out.symm
        go_wp2_with fail
        go_meet
        exact ⟨a, m, rfl, rfl, hid ⟨by rw [if_neg hg], by rw [if_neg hg], rfl⟩⟩
      · have hg : mid < m := of_decide_eq_true HG.out.symm
        have hb : b ≤ nn := by have := HMN.out; omega
        go_wp2_with fail
        go_meet
        exact ⟨nn - b, mid, by go_num, rfl, hid ⟨by rw [if_pos hg], by rw [if_pos hg], rfl⟩⟩
    case rest =>
    obtain ⟨lo, hi, rfl, rfl, hL⟩ := hcut
    obtain ⟨hlo, hhi, hW⟩ := hL.out
    rw [hW]
    obtain ⟨p, hp⟩ : ∃ p, p = nn - 1 := ⟨_, rfl⟩
    have HLH := hid (And.intro hlo (And.intro hhi hp))
    have ep : (nn : Int) - 1 = (p : Int) := by have := HMN.out; omega
    have l1 : lo ≤ hi := by
      have hh := HMN.out
      rw [hlo, hhi]
      split <;> omega
    have l2 : hi ≤ p := by
      have hh := HMN.out
      rw [hhi]
      split <;> omega
    have l3 : p < n + lo := by
      have hh := HMN.out
      rw [hlo]
      split <;> omega
    have l4 : hi ≤ n := by
      have hh := HMN.out
      rw [hhi]
      split <;> omega
    clear hL hW hlo hhi HG hp
    go_upto_region 33 with fail
    try rw [ep]
    clear ep
    go_loopw [20, 21] (fun vs vr wr => ∃ (s r : Nat), vs = .int .i64 s ∧ vr = .int .i64 r ∧ lo ≤ s ∧ s ≤ r ∧ r ≤ hi ∧ Hid ((s = lo ∨ (f (s - 1)).kd ≤ (f (p - (s - 1))).kd) ∧ (r = hi ∨ (f (p - r)).kd < (f r).kd) ∧ Same w wr)) (fun vs vr _ => (RowKit.intOf vr).toNat - (RowKit.intOf vs).toNat)
    case atStart => exact ⟨lo, hi, by go_num, by go_num, by omega, by omega, by omega, hid ⟨.inl rfl, .inl rfl, Keep.refl _ _⟩⟩
    case round =>
      obtain ⟨s, r, rfl, rfl, hs, hsr, hr, HI⟩ := hrel
      by_cases hlt : s < r
      · have hltz : (s : Int) < (r : Int) := by omega
        go_upto_region 35 with fail
        obtain ⟨h, hh⟩ : ∃ h, h = (s + r) / 2 := ⟨_, rfl⟩
        have eh : ((s : Int) + (r : Int)) / 2 = (h : Int) := by omega
        rw [eh]
        have hh1 : s ≤ h := by omega
        have hh2 : h < r := by omega
        clear eh hh
        obtain ⟨pc, hpc⟩ : ∃ pc, pc = p - h := ⟨_, rfl⟩
        have r1 : IntKind.i64.wrap ((p : Int) - (h : Int)) = (pc : Int) := by rw [IntKind.wrap_i64]; omega
        have b1 : (h : Int) < (n : Int) := by omega
        have b2 : (pc : Int) < (n : Int) := by omega
        have HPC := hid hpc
        clear hpc
        obtain ⟨D, hD⟩ : ∃ D, D = (f pc).kd - (f h).kd := ⟨_, rfl⟩
        have HCMa := hid (fun W => (show Calls Tryd.prog 47 #[.agg (f pc).ad.cells.toArray, .agg (f h).ad.cells.toArray] W (fun e w' => e = .returned (.int .i64 D) ∧ Same W w') from by
          rw [hD]; exact cmp_any W (f pc) (f h) (HKD.out pc) (HKD.out h)))
        have HD := hid hD
        clear hD
        by_cases hneg : D < 0
        · have hd1 : decide (D < 0) = true := decide_eq_true hneg
          have HSAa := hid (fun W (hk : Same wr W) => (show W.rangeAt gb (pc * 3) (f (pc)).ad.cells ∧ W.rangeAt gb (h * 3) (f (h)).ad.cells from ⟨(Rw.same (HR.out.same HI.out.2.2) hk).range (by omega), (Rw.same (HR.out.same HI.out.2.2) hk).range (by omega)⟩))
          refine wp_region_held_drew (S := fun W => W.rangeAt gb (pc * 3) (f (pc)).ad.cells ∧ W.rangeAt gb (h * 3) (f (h)).ad.cells) (by kernel_rfl) (HSAa.out _ (Keep.refl _ _).drew) (fun hHeld => ?_)
          refine takeO (i := 0) (v := ?_) (by kernel_rfl) (by kernel_rfl) (by kernel_rfl) (fun c a d v w h => by cases d <;> exact h) (oi := ?_) ?_ ?_ (by assumption) ?_
          rotate_left 2
          · (simp only [List.getElem?_toArray, List.getElem?_cons_zero]; rfl)
          · (refine Or.inl ⟨by rfl, ?_⟩; intro w hSw; (try dsimp only at hSw); go_simp; try with_reducible rfl)
          try simp only [Act.put, List.setIfInBounds_toArray, List.set_cons_zero, List.set_cons_succ]
          refine takeO (i := 1) (v := ?_) (by kernel_rfl) (by kernel_rfl) (by kernel_rfl) (fun c a d v w h => by cases d <;> exact h) (oi := ?_) ?_ ?_ (by assumption) ?_
          rotate_left 2
          · (simp only [List.getElem?_toArray, List.getElem?_cons_succ, List.getElem?_cons_zero]; rfl)
          · (refine Or.inl ⟨by rfl, ?_⟩; intro w hSw; (try dsimp only at hSw); go_simp; try with_reducible rfl)
          try simp only [Act.put, List.setIfInBounds_toArray, List.set_cons_zero, List.set_cons_succ]
          refine takeO (i := 2) (v := ?_) (by kernel_rfl) (by kernel_rfl) (by kernel_rfl) (fun c a d v w h => by cases d <;> exact h) (oi := ?_) ?_ ?_ (by assumption) ?_
          rotate_left 2
          · (simp only [List.getElem?_toArray, List.getElem?_cons_succ, List.getElem?_cons_zero]; rfl)
          · (refine Or.inl ⟨by rfl, ?_⟩; intro w hSw; (try dsimp only at hSw); go_simp; try with_reducible rfl)
          try simp only [Act.put, List.setIfInBounds_toArray, List.set_cons_zero, List.set_cons_succ]
          refine takeO (i := 3) (v := ?_) (by kernel_rfl) (by kernel_rfl) (by kernel_rfl) (fun c a d v w h => by cases d <;> exact h) (oi := ?_) ?_ ?_ (by assumption) ?_
          rotate_left 2
          · (simp only [List.getElem?_toArray, List.getElem?_cons_succ, List.getElem?_cons_zero]; rfl)
          · (refine Or.inl ⟨by rfl, ?_⟩; intro w hSw; (try dsimp only at hSw); go_simp; try with_reducible rfl)
          try simp only [Act.put, List.setIfInBounds_toArray, List.set_cons_zero, List.set_cons_succ]
          refine takeO (i := 4) (v := ?_) (by kernel_rfl) (by kernel_rfl) (by kernel_rfl) (fun c a d v w h => by cases d <;> exact h) (oi := ?_) ?_ ?_ (by assumption) ?_
          rotate_left 2
          · (simp only [List.getElem?_toArray, List.getElem?_cons_succ, List.getElem?_cons_zero]; rfl)
          · (refine Or.inl ⟨by rfl, ?_⟩; intro w hSw; (try dsimp only at hSw); go_simp; try with_reducible rfl)
          try simp only [Act.put, List.setIfInBounds_toArray, List.set_cons_zero, List.set_cons_succ]
          refine takeO (i := 5) (v := ?_) (by kernel_rfl) (by kernel_rfl) (by kernel_rfl) (fun c a d v w h => by cases d <;> exact h) (oi := ?_) ?_ ?_ (by assumption) ?_
          rotate_left 2
          · (simp only [List.getElem?_toArray, List.getElem?_cons_succ, List.getElem?_cons_zero]; rfl)
          · (refine Or.inl ⟨by rfl, ?_⟩; intro w hSw; (try dsimp only at hSw); go_simp; try with_reducible rfl)
          try simp only [Act.put, List.setIfInBounds_toArray, List.set_cons_zero, List.set_cons_succ]
          refine takeMw (i := 6) (by kernel_rfl) (by kernel_rfl) (by kernel_rfl) (fun c a d v w h => by cases d <;> exact h) (oi := ?_) ?_ ?_ _ (.tmp 163) ?_ gb (pc * 3) ?_ (f (pc)).ad.cells _ (fun W hW => hW.1) Tryd.underlying77 rfl (by kernel_rfl) (by assumption) ?_
          rotate_left 1
          · (simp only [List.getElem?_toArray, List.getElem?_cons_succ, List.getElem?_cons_zero]; rfl)
          · rfl
          · rfl
          · rfl
          try simp only [Act.put, List.setIfInBounds_toArray, List.set_cons_zero, List.set_cons_succ]
          refine takeO (i := 7) (v := ?_) (by kernel_rfl) (by kernel_rfl) (by kernel_rfl) (fun c a d v w h => by cases d <;> exact h) (oi := ?_) ?_ ?_ (by assumption) ?_
          rotate_left 2
          · (simp only [List.getElem?_toArray, List.getElem?_cons_succ, List.getElem?_cons_zero]; rfl)
          · (refine Or.inl ⟨by rfl, ?_⟩; intro w hSw; (try dsimp only at hSw); go_simp; try with_reducible rfl)
          try simp only [Act.put, List.setIfInBounds_toArray, List.set_cons_zero, List.set_cons_succ]
          refine takeO (i := 8) (v := ?_) (by kernel_rfl) (by kernel_rfl) (by kernel_rfl) (fun c a d v w h => by cases d <;> exact h) (oi := ?_) ?_ ?_ (by assumption) ?_
          rotate_left 2
          · (simp only [List.getElem?_toArray, List.getElem?_cons_succ, List.getElem?_cons_zero]; rfl)
          · (refine Or.inl ⟨by rfl, ?_⟩; intro w hSw; (try dsimp only at hSw); go_simp; try with_reducible rfl)
          try simp only [Act.put, List.setIfInBounds_toArray, List.set_cons_zero, List.set_cons_succ]
          refine takeO (i := 9) (v := ?_) (by kernel_rfl) (by kernel_rfl) (by kernel_rfl) (fun c a d v w h => by cases d <;> exact h) (oi := ?_) ?_ ?_ (by assumption) ?_
          rotate_left 2
          · (simp only [List.getElem?_toArray, List.getElem?_cons_succ, List.getElem?_cons_zero]; rfl)
          · (refine Or.inl ⟨by rfl, ?_⟩; intro w hSw; (try dsimp only at hSw); go_simp; try with_reducible rfl)
          try simp only [Act.put, List.setIfInBounds_toArray, List.set_cons_zero, List.set_cons_succ]
          refine takeMw (i := 10) (by kernel_rfl) (by kernel_rfl) (by kernel_rfl) (fun c a d v w h => by cases d <;> exact h) (oi := ?_) ?_ ?_ _ (.tmp 167) ?_ gb (h * 3) ?_ (f (h)).ad.cells _ (fun W hW => hW.2) Tryd.underlying77 rfl (by kernel_rfl) (by assumption) ?_
          rotate_left 1
          · (simp only [List.getElem?_toArray, List.getElem?_cons_succ, List.getElem?_cons_zero]; rfl)
          · rfl
          · rfl
          · rfl
          try simp only [Act.put, List.setIfInBounds_toArray, List.set_cons_zero, List.set_cons_succ]
          refine wpAnyH_ready (rs := [11]) (by kernel_rfl) (by simp) ?_
          refine AllReadyH.cons rfl (fun K hK => ?_) AllReadyH.nil
          go_simp
          refine (HCMa.out _).mono ?_
          rintro e wca ⟨rfl, hkca⟩
          have HKCa := hid (show Same wr wca from (Keep.refl _ wr).drew.then hkca)
          clear hkca
          refine hK.out _ _ (HSAa.out _ HKCa.out) (fun hHeldc => ?_)
          clear hK K
          try simp only [Act.put, List.setIfInBounds_toArray, List.set_cons_zero, List.set_cons_succ]
          refine takeO (i := 12) (v := ?_) (by kernel_rfl) (by kernel_rfl) (by kernel_rfl) (fun c a d v w h => by cases d <;> exact h) (oi := ?_) ?_ ?_ (by assumption) ?_
          rotate_left 2
          · (simp only [List.getElem?_toArray, List.getElem?_cons_succ, List.getElem?_cons_zero]; rfl)
          · (refine Or.inl ⟨by rfl, ?_⟩; intro w hSw; (try dsimp only at hSw); go_simp; try with_reducible rfl)
          try simp only [Act.put, List.setIfInBounds_toArray, List.set_cons_zero, List.set_cons_succ]
          refine takeO (i := 13) (v := ?_) (by kernel_rfl) (by kernel_rfl) (by kernel_rfl) (fun c a d v w h => by cases d <;> exact h) (oi := ?_) ?_ ?_ (by assumption) ?_
          rotate_left 2
          · (simp only [List.getElem?_toArray, List.getElem?_cons_succ, List.getElem?_cons_zero]; rfl)
          · (refine Or.inl ⟨by rfl, ?_⟩; intro w hSw; (try dsimp only at hSw); go_simp; try with_reducible rfl)
          try simp only [Act.put, List.setIfInBounds_toArray, List.set_cons_zero, List.set_cons_succ]
          refine wpAnyH_done (by kernel_rfl) ?_ _
          go_wp2_with fail
          go_roundw
          case rel => exact ⟨s, h, rfl, by go_num, hs, by omega, by omega, hid ⟨HI.out.1, .inr (by have h6 := HD.out; rw [HPC.out] at h6; omega), HI.out.2.2.then HKCa.out⟩⟩
          case measure => simp [RowKit.intOf]; omega
        · have hd1 : decide (D < 0) = false := decide_eq_false hneg
          have HSAa := hid (fun W (hk : Same wr W) => (show W.rangeAt gb (pc * 3) (f (pc)).ad.cells ∧ W.rangeAt gb (h * 3) (f (h)).ad.cells from ⟨(Rw.same (HR.out.same HI.out.2.2) hk).range (by omega), (Rw.same (HR.out.same HI.out.2.2) hk).range (by omega)⟩))
          refine wp_region_held_drew (S := fun W => W.rangeAt gb (pc * 3) (f (pc)).ad.cells ∧ W.rangeAt gb (h * 3) (f (h)).ad.cells) (by kernel_rfl) (HSAa.out _ (Keep.refl _ _).drew) (fun hHeld => ?_)
          refine takeO (i := 0) (v := ?_) (by kernel_rfl) (by kernel_rfl) (by kernel_rfl) (fun c a d v w h => by cases d <;> exact h) (oi := ?_) ?_ ?_ (by assumption) ?_
          rotate_left 2
          · (simp only [List.getElem?_toArray, List.getElem?_cons_zero]; rfl)
          · (refine Or.inl ⟨by rfl, ?_⟩; intro w hSw; (try dsimp only at hSw); go_simp; try with_reducible rfl)
          try simp only [Act.put, List.setIfInBounds_toArray, List.set_cons_zero, List.set_cons_succ]
          refine takeO (i := 1) (v := ?_) (by kernel_rfl) (by kernel_rfl) (by kernel_rfl) (fun c a d v w h => by cases d <;> exact h) (oi := ?_) ?_ ?_ (by assumption) ?_
          rotate_left 2
          · (simp only [List.getElem?_toArray, List.getElem?_cons_succ, List.getElem?_cons_zero]; rfl)
          · (refine Or.inl ⟨by rfl, ?_⟩; intro w hSw; (try dsimp only at hSw); go_simp; try with_reducible rfl)
          try simp only [Act.put, List.setIfInBounds_toArray, List.set_cons_zero, List.set_cons_succ]
          refine takeO (i := 2) (v := ?_) (by kernel_rfl) (by kernel_rfl) (by kernel_rfl) (fun c a d v w h => by cases d <;> exact h) (oi := ?_) ?_ ?_ (by assumption) ?_
          rotate_left 2
          · (simp only [List.getElem?_toArray, List.getElem?_cons_succ, List.getElem?_cons_zero]; rfl)
          · (refine Or.inl ⟨by rfl, ?_⟩; intro w hSw; (try dsimp only at hSw); go_simp; try with_reducible rfl)
          try simp only [Act.put, List.setIfInBounds_toArray, List.set_cons_zero, List.set_cons_succ]
          refine takeO (i := 3) (v := ?_) (by kernel_rfl) (by kernel_rfl) (by kernel_rfl) (fun c a d v w h => by cases d <;> exact h) (oi := ?_) ?_ ?_ (by assumption) ?_
          rotate_left 2
          · (simp only [List.getElem?_toArray, List.getElem?_cons_succ, List.getElem?_cons_zero]; rfl)
          · (refine Or.inl ⟨by rfl, ?_⟩; intro w hSw; (try dsimp only at hSw); go_simp; try with_reducible rfl)
          try simp only [Act.put, List.setIfInBounds_toArray, List.set_cons_zero, List.set_cons_succ]
          refine takeO (i := 4) (v := ?_) (by kernel_rfl) (by kernel_rfl) (by kernel_rfl) (fun c a d v w h => by cases d <;> exact h) (oi := ?_) ?_ ?_ (by assumption) ?_
          rotate_left 2
          · (simp only [List.getElem?_toArray, List.getElem?_cons_succ, List.getElem?_cons_zero]; rfl)
          · (refine Or.inl ⟨by rfl, ?_⟩; intro w hSw; (try dsimp only at hSw); go_simp; try with_reducible rfl)
          try simp only [Act.put, List.setIfInBounds_toArray, List.set_cons_zero, List.set_cons_succ]
          refine takeO (i := 5) (v := ?_) (by kernel_rfl) (by kernel_rfl) (by kernel_rfl) (fun c a d v w h => by cases d <;> exact h) (oi := ?_) ?_ ?_ (by assumption) ?_
          rotate_left 2
          · (simp only [List.getElem?_toArray, List.getElem?_cons_succ, List.getElem?_cons_zero]; rfl)
          · (refine Or.inl ⟨by rfl, ?_⟩; intro w hSw; (try dsimp only at hSw); go_simp; try with_reducible rfl)
          try simp only [Act.put, List.setIfInBounds_toArray, List.set_cons_zero, List.set_cons_succ]
          refine takeMw (i := 6) (by kernel_rfl) (by kernel_rfl) (by kernel_rfl) (fun c a d v w h => by cases d <;> exact h) (oi := ?_) ?_ ?_ _ (.tmp 163) ?_ gb (pc * 3) ?_ (f (pc)).ad.cells _ (fun W hW => hW.1) Tryd.underlying77 rfl (by kernel_rfl) (by assumption) ?_
          rotate_left 1
          · (simp only [List.getElem?_toArray, List.getElem?_cons_succ, List.getElem?_cons_zero]; rfl)
          · rfl
          · rfl
          · rfl
          try simp only [Act.put, List.setIfInBounds_toArray, List.set_cons_zero, List.set_cons_succ]
          refine takeO (i := 7) (v := ?_) (by kernel_rfl) (by kernel_rfl) (by kernel_rfl) (fun c a d v w h => by cases d <;> exact h) (oi := ?_) ?_ ?_ (by assumption) ?_
          rotate_left 2
          · (simp only [List.getElem?_toArray, List.getElem?_cons_succ, List.getElem?_cons_zero]; rfl)
          · (refine Or.inl ⟨by rfl, ?_⟩; intro w hSw; (try dsimp only at hSw); go_simp; try with_reducible rfl)
          try simp only [Act.put, List.setIfInBounds_toArray, List.set_cons_zero, List.set_cons_succ]
          refine takeO (i := 8) (v := ?_) (by kernel_rfl) (by kernel_rfl) (by kernel_rfl) (fun c a d v w h => by cases d <;> exact h) (oi := ?_) ?_ ?_ (by assumption) ?_
          rotate_left 2
          · (simp only [List.getElem?_toArray, List.getElem?_cons_succ, List.getElem?_cons_zero]; rfl)
          · (refine Or.inl ⟨by rfl, ?_⟩; intro w hSw; (try dsimp only at hSw); go_simp; try with_reducible rfl)
          try simp only [Act.put, List.setIfInBounds_toArray, List.set_cons_zero, List.set_cons_succ]
          refine takeO (i := 9) (v := ?_) (by kernel_rfl) (by kernel_rfl) (by kernel_rfl) (fun c a d v w h => by cases d <;> exact h) (oi := ?_) ?_ ?_ (by assumption) ?_
          rotate_left 2
          · (simp only [List.getElem?_toArray, List.getElem?_cons_succ, List.getElem?_cons_zero]; rfl)
          · (refine Or.inl ⟨by rfl, ?_⟩; intro w hSw; (try dsimp only at hSw); go_simp; try with_reducible rfl)
          try simp only [Act.put, List.setIfInBounds_toArray, List.set_cons_zero, List.set_cons_succ]
          refine takeMw (i := 10) (by kernel_rfl) (by kernel_rfl) (by kernel_rfl) (fun c a d v w h => by cases d <;> exact h) (oi := ?_) ?_ ?_ _ (.tmp 167) ?_ gb (h * 3) ?_ (f (h)).ad.cells _ (fun W hW => hW.2) Tryd.underlying77 rfl (by kernel_rfl) (by assumption) ?_
          rotate_left 1
          · (simp only [List.getElem?_toArray, List.getElem?_cons_succ, List.getElem?_cons_zero]; rfl)
          · rfl
          · rfl
          · rfl
          try simp only [Act.put, List.setIfInBounds_toArray, List.set_cons_zero, List.set_cons_succ]
          refine wpAnyH_ready (rs := [11]) (by kernel_rfl) (by simp) ?_
          refine AllReadyH.cons rfl (fun K hK => ?_) AllReadyH.nil
          go_simp
          refine (HCMa.out _).mono ?_
          rintro e wca ⟨rfl, hkca⟩
          have HKCa := hid (show Same wr wca from (Keep.refl _ wr).drew.then hkca)
          clear hkca
          refine hK.out _ _ (HSAa.out _ HKCa.out) (fun hHeldc => ?_)
          clear hK K
          try simp only [Act.put, List.setIfInBounds_toArray, List.set_cons_zero, List.set_cons_succ]
          refine takeO (i := 12) (v := ?_) (by kernel_rfl) (by kernel_rfl) (by kernel_rfl) (fun c a d v w h => by cases d <;> exact h) (oi := ?_) ?_ ?_ (by assumption) ?_
          rotate_left 2
          · (simp only [List.getElem?_toArray, List.getElem?_cons_succ, List.getElem?_cons_zero]; rfl)
          · (refine Or.inl ⟨by rfl, ?_⟩; intro w hSw; (try dsimp only at hSw); go_simp; try with_reducible rfl)
          try simp only [Act.put, List.setIfInBounds_toArray, List.set_cons_zero, List.set_cons_succ]
          refine takeO (i := 13) (v := ?_) (by kernel_rfl) (by kernel_rfl) (by kernel_rfl) (fun c a d v w h => by cases d <;> exact h) (oi := ?_) ?_ ?_ (by assumption) ?_
          rotate_left 2
          · (simp only [List.getElem?_toArray, List.getElem?_cons_succ, List.getElem?_cons_zero]; rfl)
          · (refine Or.inl ⟨by rfl, ?_⟩; intro w hSw; (try dsimp only at hSw); go_simp; try with_reducible rfl)
          try simp only [Act.put, List.setIfInBounds_toArray, List.set_cons_zero, List.set_cons_succ]
          refine wpAnyH_done (by kernel_rfl) ?_ _
          go_wp2_with fail
          go_roundw
          case rel => exact ⟨h + 1, r, by go_num, rfl, by omega, by omega, hr, hid ⟨.inr (by have h6 := HD.out; rw [HPC.out] at h6; rw [show h + 1 - 1 = h from by omega]; omega), HI.out.2.1, HI.out.2.2.then HKCa.out⟩⟩
          case measure => simp [RowKit.intOf]; omega
      · obtain rfl : s = r := by omega
        have hcut0 : CutAt f a m b lo hi p s := ⟨hs, hr, HI.out.1, HI.out.2.1⟩
        have hmn := HMN.out
        have hlh := HLH.out
        have hMC := merge_cut (n := nn) h1 h2 (by rw [hmn.2, hmn.1]) HS.out.1 HS.out.2.1 HS.out.2.2 (s := s) (by rw [← hmn.1, ← hlh.1, ← hlh.2.1, ← hlh.2.2]; exact hcut0)
        rw [← hmn.1] at hMC
        obtain ⟨e, he⟩ : ∃ e, e = nn - s := ⟨_, rfl⟩
        rw [← he] at hMC
        obtain ⟨c1, c2, c3, c4, c5, c6, c7, c8⟩ := hMC
        have ee : (nn : Int) - (s : Int) = (e : Int) := by omega
        have hse : mid + m = e + s := by omega
        have HXY := hid (And.intro c7 c8)
        have HSE := hid hse
        have HK0 := hid HI.out.2.2
        have HRw := hid (HR.out.same HI.out.2.2)
        have HMP := hid (merge_parts HS.out.1 HS.out.2.1 HS.out.2.2 c1 c2 c4 c5 hse)
        have e1 : mid - a ≤ N := by omega
        have e2 : b - mid ≤ N := by omega
        clear hcut0 hmn hlh c7 c8 he hse HI hs hsr hr hlt l1 l2 l3 l4 HLH
        go_upto_region 39 with fail
        try rw [ee]
        clear ee
        go_cut [185] from 178 to 185 (fun u w' => ∃ g : Bool, u = .bool g ∧ Hid ((g = true ↔ (s < m ∧ m < e)) ∧ w' = wr))
        case first =>
          by_cases x1 : s < m
          · have x1' : (s : Int) < (m : Int) := by omega
            by_cases x2 : m < e
            · have x2' : (m : Int) < (e : Int) := by omega
              go_wp2_with fail
              go_meet
              exact ⟨true, by first | rfl | simp [x1, x2], hid ⟨by simp [x1, x2], rfl⟩⟩
            · have x2' : ¬ (m : Int) < (e : Int) := by omega
              go_wp2_with fail
              go_meet
              exact ⟨false, by first | rfl | simp [x1, x2], hid ⟨by simp [x2], rfl⟩⟩
          · have x1' : ¬ (s : Int) < (m : Int) := by omega
            go_wp2_with fail
            go_meet
            exact ⟨false, by first | rfl | simp [x1], hid ⟨by simp [x1], rfl⟩⟩
        case rest =>
        obtain ⟨g3, rfl, hG⟩ := hcut
        obtain ⟨hg, hW⟩ := hG.out
        rw [hW]
        have HG3 := hid hg
        clear hG hg hW
        go_upto_if 185 with fail
        go_cut [] from 186 to 191 (fun w' => Hid (Rw w' base gb n c (rot s m e f) ∧ Keep (fun i => i = gb) wr w'))
        case first =>
          cases g3
          · have hno : ¬ (s < m ∧ m < e) := fun h => by have := HG3.out.2 h; cases this
            go_wp2_with fail
            go_meet
            refine hid ⟨?_, Keep.refl _ _⟩
            by_cases x1 : s = m
            · subst x1; rw [rot_none_l]; exact HRw.out
            · have x2 : m = e := by omega
              subst x2; rw [rot_none_r s m f c2]; exact HRw.out
          · have hyes := HG3.out.1 rfl
            go_wp2_with ((with_reducible refine (rot_any _ base gb n c f HRw.out hn s m e hyes.1 hyes.2 (by omega) _ _ _ _ rfl rfl rfl).mono ?_); rintro e w2 ⟨rfl, hr2, hk2⟩; have HR2 := hid hr2; have HK2 := hid hk2; clear hr2 hk2)
            go_meet
            exact hid ⟨HR2.out, HK2.out⟩
        case rest =>
        obtain ⟨w5, hw5⟩ : ∃ x, x = wc := ⟨_, rfl⟩
        subst hw5
        have HRG := hid hcut.out.1
        have HKG := hid hcut.out.2
        have HPG := hid ((rot_perm s m e f c2 c4).wide c1 c5)
        clear hcut HG3 HRw
        have HKDG := hid (HPG.out.kdok HKD.out)
        obtain ⟨g, hgg⟩ : ∃ g, g = rot s m e f := ⟨_, rfl⟩
        rw [← hgg] at HRG HMP HPG HKDG
        have HGG := hid hgg
        clear hgg
        go_upto_region 41 with fail
        go_cut [199] from 192 to 199 (fun u w' => ∃ g : Bool, u = .bool g ∧ Hid ((g = true ↔ (a < s ∧ s < mid)) ∧ w' = w5))
        case first =>
          by_cases x1 : a < s
          · have x1' : (a : Int) < (s : Int) := by omega
            by_cases x2 : s < mid
            · have x2' : (s : Int) < (mid : Int) := by omega
              go_wp2_with fail
              go_meet
              exact ⟨true, by first | rfl | simp [x1, x2], hid ⟨by simp [x1, x2], rfl⟩⟩
            · have x2' : ¬ (s : Int) < (mid : Int) := by omega
              go_wp2_with fail
              go_meet
              exact ⟨false, by first | rfl | simp [x1, x2], hid ⟨by simp [x2], rfl⟩⟩
          · have x1' : ¬ (a : Int) < (s : Int) := by omega
            go_wp2_with fail
            go_meet
            exact ⟨false, by first | rfl | simp [x1], hid ⟨by simp [x1], rfl⟩⟩
        case rest =>
        obtain ⟨g4, rfl, hG⟩ := hcut
        obtain ⟨hg, hW⟩ := hG.out
        rw [hW]
        have HG4 := hid hg
        clear hG hg hW
        go_upto_if 199 with fail
        go_cut [] from 200 to 205 (fun w' => Hid (∃ g1, Rw w' base gb n c g1 ∧ PermOn a mid g g1 ∧ SortedOn g1 a mid ∧ Keep (fun i => i = gb) w5 w'))
        case first =>
          cases g4
          · have hno : ¬ (a < s ∧ s < mid) := fun h => by have := HG4.out.2 h; cases this
            go_wp2_with fail
            go_meet
            refine hid ⟨g, HRG.out, PermOn.refl _ _ _, ?_, Keep.refl _ _⟩
            by_cases x1 : a = s
            · rw [x1]; exact HMP.out.2.1
            · have x2 : s = mid := by omega
              rw [← x2]; exact HMP.out.1
          · have hyes := HG4.out.1 rfl
            go_wp2_with ((with_reducible refine (HIH.out _ base gb n c g HRG.out hn HKDG.out a s mid hyes.1 hyes.2 (by omega) e1 HMP.out.1 HMP.out.2.1 HMP.out.2.2.1 _ _ _ rfl rfl rfl).mono ?_); rintro e w2 ⟨rfl, g1, hr2, hp2, hs2, hk2⟩; have HF2 := hid (And.intro hr2 (And.intro hp2 (And.intro hs2 hk2))); clear hr2 hp2 hs2 hk2)
            go_meet
            exact hid ⟨g1, HF2.out.1, HF2.out.2.1, HF2.out.2.2.1, HF2.out.2.2.2⟩
        case rest =>
        obtain ⟨w6, hw6⟩ : ∃ x, x = wc := ⟨_, rfl⟩
        subst hw6
        obtain ⟨g1, t1, t2, t3, t4⟩ := hcut.out
        have HR1 := hid t1
        have HP1 := hid t2
        have HS1 := hid t3
        have HK1 := hid t4
        clear hcut t1 t2 t3 t4 HG4
        have HKD1 := hid (HP1.out.kdok HKDG.out)
        have hsub : ∀ x, mid ≤ x → g1 x = g x := fun x hx => HP1.out.out (by omega)
        have HM1 := hid (show SortedOn g1 mid e ∧ SortedOn g1 e b ∧ Cross g1 mid e b from ⟨fun i j y1 y2 y3 => by rw [hsub i y1, hsub j (by omega)]; exact HMP.out.2.2.2.1 i j y1 y2 y3, fun i j y1 y2 y3 => by rw [hsub i (by omega), hsub j (by omega)]; exact HMP.out.2.2.2.2.1 i j y1 y2 y3, fun i j y1 y2 y3 y4 => by rw [hsub i y1, hsub j (by omega)]; exact HMP.out.2.2.2.2.2 i j y1 y2 y3 y4⟩)
        clear hsub
        have HJ := hid (fun (g2 : Arr) (q1 : PermOn mid b g1 g2) (q2 : SortedOn g2 mid b) => (show PermOn a b f g2 ∧ SortedOn g2 a b from by
          refine ⟨(HPG.out.trans (HP1.out.wide (Nat.le_refl _) (by omega))).trans (q1.wide (by omega) (Nat.le_refl _)), ?_⟩
          have q3 := HP1.out
          rw [HGG.out] at q3
          exact merge_join HS.out.1 HS.out.2.1 c1 c2 c4 c5 HSE.out HXY.out.1 HXY.out.2 q3 HS1.out q1 q2))
        go_upto_region 43 with fail
        by_cases x1 : mid < e
        · have x1' : (mid : Int) < (e : Int) := by omega
          by_cases x2 : e < b
          · have x2' : (e : Int) < (b : Int) := by omega
            go_wp2_with ((with_reducible refine (HIH.out _ base gb n c g1 HR1.out hn HKD1.out mid e b x1 x2 h3 e2 HM1.out.1 HM1.out.2.1 HM1.out.2.2 _ _ _ rfl rfl rfl).mono ?_); rintro e w2 ⟨rfl, g2, hr2, hp2, hs2, hk2⟩; have HF2 := hid (And.intro hr2 (And.intro hp2 (And.intro hs2 hk2))); clear hr2 hp2 hs2 hk2)
            go_end0
            exact ⟨rfl, g2, HF2.out.1, (HJ.out g2 HF2.out.2.1 HF2.out.2.2.1).1, (HJ.out g2 HF2.out.2.1 HF2.out.2.2.1).2, (((HK0.out.wide (fun _ _ f => f.elim)).trans HKG.out (fun _ _ e => e)).trans HK1.out (fun _ _ e => e)).trans HF2.out.2.2.2 (fun _ _ e => e)⟩
          · have x2' : ¬ (e : Int) < (b : Int) := by omega
            have hsb : SortedOn g1 mid b := by
              have : e = b := by omega
              rw [← this]; exact HM1.out.1
            have HSB := hid hsb
            clear hsb
            go_wp2_with fail
            go_end0
            exact ⟨rfl, g1, HR1.out, (HJ.out g1 (PermOn.refl _ _ _) HSB.out).1, (HJ.out g1 (PermOn.refl _ _ _) HSB.out).2, ((HK0.out.wide (fun _ _ f => f.elim)).trans HKG.out (fun _ _ e => e)).trans HK1.out (fun _ _ e => e)⟩
        · have x1' : ¬ (mid : Int) < (e : Int) := by omega
          have hsb : SortedOn g1 mid b := by
            have : mid = e := by omega
            rw [this]; exact HM1.out.2.1
          have HSB := hid hsb
          clear hsb
          go_wp2_with fail
          go_end0
          exact ⟨rfl, g1, HR1.out, (HJ.out g1 (PermOn.refl _ _ _) HSB.out).1, (HJ.out g1 (PermOn.refl _ _ _) HSB.out).2, ((HK0.out.wide (fun _ _ f => f.elim)).trans HKG.out (fun _ _ e => e)).trans HK1.out (fun _ _ e => e)⟩
end Go.Proofs.YtafpcffhkbeloaaDoor
namespace Go.Proofs.YtafpcffhkbeloaaDoor
open Go.RowKit

/-! ## the stable sort -/
inductive Runs (bs : Nat) (F : Arr) (n : Nat) : Nat → Prop
  | stop {a : Nat} : n ≤ a → Runs bs F n a
  | step {a : Nat} : SortedOn F a (min (a + bs) n) → Runs bs F n (a + bs) → Runs bs F n a
inductive RunsTo (bs : Nat) (F : Arr) : Nat → Prop
  | zero : RunsTo bs F 0
  | step {a : Nat} : RunsTo bs F a → SortedOn F a (a + bs) → RunsTo bs F (a + bs)
theorem RunsTo.join {bs n : Nat} {F : Arr} {a : Nat} (h : RunsTo bs F a) : Runs bs F n a → Runs bs F n 0 := by
  induction h with
  | zero => exact id
  | step _ hs ih => exact fun hr => ih (.step (hs.sub (Nat.le_refl _) (Nat.min_le_left _ _)) hr)
theorem SortedOn.congr {F G : Arr} {a b : Nat} (h : SortedOn F a b) (e : ∀ x, a ≤ x → x < b → G x = F x) : SortedOn G a b := fun i j h1 h2 h3 => by
  rw [e i h1 (by omega), e j (by omega) h3]; exact h i j h1 h2 h3
theorem RunsTo.congr {bs : Nat} {F G : Arr} {a : Nat} (h : RunsTo bs F a) : (∀ x, x < a → G x = F x) → RunsTo bs G a := by
  induction h with
  | zero => exact fun _ => .zero
  | step _ hs ih => exact fun e => .step (ih (fun x hx => e x (by omega))) (hs.congr (fun x _ h2 => e x h2))
theorem Runs.congr {bs n : Nat} {F G : Arr} {a : Nat} (h : Runs bs F n a) : (∀ x, a ≤ x → G x = F x) → Runs bs G n a := by
  induction h with
  | stop h => exact fun _ => .stop h
  | step hs _ ih => exact fun e => .step (hs.congr (fun x h1 _ => e x h1)) (ih (fun x hx => e x (by omega)))
theorem Runs.head {bs n : Nat} {F : Arr} {a : Nat} (h : Runs bs F n a) (h1 : a < n) : SortedOn F a (min (a + bs) n) ∧ Runs bs F n (a + bs) := by
  cases h with
  | stop h => omega
  | step h2 h3 => exact ⟨h2, h3⟩
theorem Runs.last {bs n : Nat} {F : Arr} {a : Nat} (h1 : SortedOn F a n) (h2 : n ≤ a + bs) : Runs bs F n a :=
  .step (by rw [Nat.min_eq_right h2]; exact h1) (.stop h2)
def StabPost (w : World) (base gb n c : Nat) (f : Arr) (e : Ending) (w' : World) : Prop := e = .returned (.tuple #[]) ∧ ∃ g, Rw w' base gb n c g ∧ PermOn 0 n f g ∧ SortedOn g 0 n ∧ Keep (fun i => i = gb) w w'
/-- what a step leaves -/
structure StA (w0 : World) (base gb n c : Nat) (f : Arr) (w : World) (F : Arr) : Prop where
  rw_ : Rw w base gb n c F
  perm : PermOn 0 n f F
  stab : Stab F 0 n
  keep : Keep (fun i => i = gb) w0 w
theorem StA.next {w0 w w' : World} {base gb n c : Nat} {f F G : Arr} {a b : Nat} (h : StA w0 base gb n c f w F) (hb : b ≤ n) (h1 : Rw w' base gb n c G) (h2 : PermOn a b F G) (h3 : SortedOn G a b) (h4 : Keep (fun i => i = gb) w w') : StA w0 base gb n c f w' G :=
  ⟨h1, h.perm.trans (h2.wide (Nat.zero_le _) hb), stab_step h.stab h2 h3 hb, h.keep.trans h4 (fun _ _ e => e)⟩
set_option maxRecDepth 100000 in
set_option maxHeartbeats 16000000 in
theorem stable_any (w : World) (base gb n c : Nat) (f : Arr) (h : Rw w base gb n c f) (hn : n ≤ 1000) (hkd : KdOk f) (hst : Stab f 0 n) :
    Calls Tryd.prog 50 #[.slice (some ⟨gb, 0, none⟩) n c, .int .i64 n, (.func (.func 47) #[] #[])] w (StabPost w base gb n c f) := by
  have H0 := hid (show StA w base gb n c f w f from ⟨h, PermOn.refl _ _ _, hst, Keep.refl _ _⟩)
  have HKD := hid hkd
  clear h hkd hst
  unfold StabPost
  go_enter Tryd.func50, Tryd.ntmps50
  go_wp2_with fail
  go_loopw [7, 8] (fun va vb wr => ∃ (a : Nat) (F : Arr), va = .int .i64 a ∧ vb = .int .i64 ((a : Int) + 20) ∧ a ≤ n ∧ Hid (StA w base gb n c f wr F ∧ RunsTo 20 F a)) (fun va _ _ => n + 20 - (RowKit.intOf va).toNat)
  case atStart => exact ⟨0, f, by go_num, by go_num, by omega, hid ⟨H0.out, .zero⟩⟩
  case round =>
    obtain ⟨a, F, rfl, rfl, han, HI⟩ := hrel
    by_cases hle : a + 20 ≤ n
    · have hlz : (a : Int) + 20 ≤ (n : Int) := by omega
      have HSTA := hid (show Stab F a (a + 20) from fun i j y1 y2 y3 => HI.out.1.stab i j (Nat.zero_le _) y2 (by omega))
      go_wp2_with ((with_reducible refine (ins_any _ base gb n c F HI.out.1.rw_ hn (HI.out.1.perm.kdok HKD.out) a (a + 20) (by omega) hle HSTA.out _ _ rfl (by omega)).mono ?_); rintro e w2 ⟨rfl, G, hr2, hp2, hs2, hk2⟩; have HF2 := hid (And.intro hr2 (And.intro hp2 (And.intro hs2 hk2))); clear hr2 hp2 hs2 hk2)
      go_roundw
      case rel => exact ⟨a + 20, G, by go_num, by go_num, hle, hid ⟨HI.out.1.next hle HF2.out.1 HF2.out.2.1 HF2.out.2.2.1 HF2.out.2.2.2, .step (HI.out.2.congr (fun x hx => HF2.out.2.1.out (by omega))) HF2.out.2.2.1⟩⟩
      case measure => simp [RowKit.intOf]; omega
    · have hlz : ¬ (a : Int) + 20 ≤ (n : Int) := by omega
      have HSTA := hid (show Stab F a n from fun i j y1 y2 y3 => HI.out.1.stab i j (Nat.zero_le _) y2 y3)
      go_upto_region 7 with ((with_reducible refine (ins_any _ base gb n c F HI.out.1.rw_ hn (HI.out.1.perm.kdok HKD.out) a n han (Nat.le_refl _) HSTA.out _ _ rfl rfl).mono ?_); rintro e w2 ⟨rfl, G, hr2, hp2, hs2, hk2⟩; have HF2 := hid (And.intro hr2 (And.intro hp2 (And.intro hs2 hk2))); clear hr2 hp2 hs2 hk2)
      have HG := hid (show StA w base gb n c f w2 G ∧ Runs 20 G n 0 from ⟨HI.out.1.next (Nat.le_refl _) HF2.out.1 HF2.out.2.1 HF2.out.2.2.1 HF2.out.2.2.2, (HI.out.2.congr (fun x hx => HF2.out.2.1.out (by omega))).join (Runs.last HF2.out.2.2.1 (by omega))⟩)
      clear HF2 HI hle hlz han
      go_loopw [6] (fun vs wr => ∃ (bs : Nat) (F : Arr), vs = .int .i64 bs ∧ 0 < bs ∧ bs ≤ 3000 ∧ Hid (StA w base gb n c f wr F ∧ Runs bs F n 0)) (fun vs _ => n - (RowKit.intOf vs).toNat)
      case atStart => exact ⟨20, G, by go_num, by omega, by omega, hid HG.out⟩
      case round =>
        clear HG
        obtain ⟨bs, F, rfl, hbs, hb3, HI⟩ := hrel
        by_cases hlt : bs < n
        · have hltz : (bs : Int) < (n : Int) := by omega
          obtain ⟨wo, hwo⟩ : ∃ x, x = wr := ⟨_, rfl⟩
          subst hwo
          go_upto_region 9 with fail
          go_loopw [7, 8] (fun va vb wr => ∃ (a : Nat) (F : Arr), va = .int .i64 a ∧ vb = .int .i64 ((a : Int) + 2 * (bs : Int)) ∧ a ≤ n ∧ Hid (StA w base gb n c f wr F ∧ RunsTo (bs + bs) F a ∧ Runs bs F n a)) (fun va _ _ => n + 3000 - (RowKit.intOf va).toNat)
          case atStart => exact ⟨0, F, by go_num, by go_num, by omega, hid ⟨HI.out.1, .zero, HI.out.2⟩⟩
          case round =>
            obtain ⟨a, F, rfl, rfl, han, HJ⟩ := hrel
            by_cases hle : a + (bs + bs) ≤ n
            · have hlz : (a : Int) + 2 * (bs : Int) ≤ (n : Int) := by omega
              have hr1 := HJ.out.2.2.head (by omega)
              have hr2 := hr1.2.head (by omega)
              have HRR := hid (show SortedOn F a (a + bs) ∧ SortedOn F (a + bs) (a + (bs + bs)) ∧ Runs bs F n (a + bs + bs) from ⟨by have := hr1.1; rwa [Nat.min_eq_left (by omega)] at this, by have := hr2.1; rwa [Nat.min_eq_left (by omega), Nat.add_assoc] at this, hr2.2⟩)
              clear hr1 hr2
              go_wp2_with ((with_reducible refine (sym_any n _ base gb n c F HJ.out.1.rw_ hn (HJ.out.1.perm.kdok HKD.out) a (a + bs) (a + (bs + bs)) (by omega) (by omega) hle (by omega) HRR.out.1 HRR.out.2.1 (HJ.out.1.stab.cross (Nat.zero_le _) hle) _ _ _ rfl (by omega) (by omega)).mono ?_); rintro e w2 ⟨rfl, G, hr2, hp2, hs2, hk2⟩; have HF2 := hid (And.intro hr2 (And.intro hp2 (And.intro hs2 hk2))); clear hr2 hp2 hs2 hk2)
              go_roundw
              case rel => exact ⟨a + (bs + bs), G, by go_num, by go_num, hle, hid ⟨HJ.out.1.next hle HF2.out.1 HF2.out.2.1 HF2.out.2.2.1 HF2.out.2.2.2, .step (HJ.out.2.1.congr (fun x hx => HF2.out.2.1.out (by omega))) HF2.out.2.2.1, by rw [← Nat.add_assoc]; exact HRR.out.2.2.congr (fun x hx => HF2.out.2.1.out (by omega))⟩⟩
              case measure => simp [RowKit.intOf]; omega
            · have hlz : ¬ (a : Int) + 2 * (bs : Int) ≤ (n : Int) := by omega
              by_cases hm : a + bs < n
              · have hmz : (a : Int) + (bs : Int) < (n : Int) := by omega
                have hr1 := HJ.out.2.2.head (by omega)
                have hr2 := hr1.2.head (by omega)
                have HRR := hid (show SortedOn F a (a + bs) ∧ SortedOn F (a + bs) n from ⟨by have := hr1.1; rwa [Nat.min_eq_left (by omega)] at this, by have := hr2.1; rwa [Nat.min_eq_right (by omega)] at this⟩)
                clear hr1 hr2
                go_wp2_with ((with_reducible refine (sym_any n _ base gb n c F HJ.out.1.rw_ hn (HJ.out.1.perm.kdok HKD.out) a (a + bs) n (by omega) hm (Nat.le_refl _) (by omega) HRR.out.1 HRR.out.2 (HJ.out.1.stab.cross (Nat.zero_le _) (Nat.le_refl _)) _ _ _ rfl (by omega) rfl).mono ?_); rintro e w2 ⟨rfl, G, hr2, hp2, hs2, hk2⟩; have HF2 := hid (And.intro hr2 (And.intro hp2 (And.intro hs2 hk2))); clear hr2 hp2 hs2 hk2)
                go_roundw
                case rel => exact ⟨bs + bs, G, by go_num, by omega, by omega, hid ⟨HJ.out.1.next (Nat.le_refl _) HF2.out.1 HF2.out.2.1 HF2.out.2.2.1 HF2.out.2.2.2, (HJ.out.2.1.congr (fun x hx => HF2.out.2.1.out (by omega))).join (Runs.last HF2.out.2.2.1 (by omega))⟩⟩
                case measure => simp [RowKit.intOf]; omega
              · have hmz : ¬ (a : Int) + (bs : Int) < (n : Int) := by omega
                have HRR := hid (show Runs (bs + bs) F n a from by
                  rcases Nat.lt_or_ge a n with h | h
                  · have := (HJ.out.2.2.head h).1
                    rw [Nat.min_eq_right (by omega)] at this
                    exact Runs.last this (by omega)
                  · exact .stop h)
                go_wp2_with fail
                go_roundw
                case rel => exact ⟨bs + bs, F, by go_num, by omega, by omega, hid ⟨HJ.out.1, HJ.out.2.1.join HRR.out⟩⟩
                case measure => simp [RowKit.intOf]; omega
        · have hltz : ¬ (bs : Int) < (n : Int) := by omega
          go_wp2_with fail
          go_end0
          refine ⟨rfl, F, HI.out.1.rw_, HI.out.1.perm, ?_, HI.out.1.keep⟩
          rcases Nat.eq_zero_or_pos n with h | h
          · intro i j h1 h2 h3; omega
          · have := (HI.out.2.head h).1
            rwa [Nat.min_eq_right (by omega)] at this
set_option maxRecDepth 100000 in
set_option maxHeartbeats 4000000 in
theorem sort_any (w : World) (base gb n c : Nat) (f : Arr) (h : Rw w base gb n c f) (hn : n ≤ 1000) (hkd : KdOk f) (hst : Stab f 0 n) :
    Calls Tryd.prog 46 #[.slice (some ⟨gb, 0, none⟩) n c, (.func (.func 47) #[] #[])] w (StabPost w base gb n c f) := by
  have HS := hid (stable_any w base gb n c f h hn hkd hst)
  unfold StabPost at HS
  clear h hkd hst
  go_enter Tryd.func46, Tryd.ntmps46
  go_wp2_with fail
  (with_reducible refine HS.out.mono ?_)
  rintro e w2 ⟨rfl, G, hr2, hp2, hs2, hk2⟩
  have HF2 := hid (And.intro hr2 (And.intro hp2 (And.intro hs2 hk2)))
  clear hr2 hp2 hs2 hk2
  go_wp2_with fail
  go_end0
  exact ⟨rfl, G, HF2.out.1, HF2.out.2.1, HF2.out.2.2.1, HF2.out.2.2.2⟩
end Go.Proofs.YtafpcffhkbeloaaDoor
namespace Go.Proofs.YtafpcffhkbeloaaDoor
open Go.RowKit

/-! ## sorting a list of sources -/
def dfl : Ad := ⟨⟨1, none, 0, []⟩, false⟩
def arrOf (l : List Ad) : Arr := fun i => ⟨i, l.getD i dfl⟩
def kinds : List Int := [1, 2, 3, 4, 5, 6, 7, 8, 9]
def sortA (l : List Ad) : List Ad := kinds.flatMap (fun k => l.filter (fun a => a.s.kd == k))
def rebK (ks : List Ks) : List Ks := kinds.flatMap (fun k => ks.filter (fun x => x.1 == k))
theorem lex_ext : ∀ {a b : List El}, a.Pairwise lex → b.Pairwise lex → (∀ x, x ∈ a ↔ x ∈ b) → a = b
  | [], [], _, _, _ => rfl
  | [], y :: b, _, _, h => by have := (h y).2 (by simp); simp at this
  | x :: a, [], _, _, h => by have := (h x).1 (by simp); simp at this
  | x :: a, y :: b, ha, hb, h => by
    obtain ⟨ha1, ha2⟩ := List.pairwise_cons.1 ha
    obtain ⟨hb1, hb2⟩ := List.pairwise_cons.1 hb
    have irr : ∀ z, ¬ lex z z := fun z hz => by unfold lex at hz; omega
    have hxy : x = y := by
      have h1 := (h x).1 (by simp)
      have h2 := (h y).2 (by simp)
      rcases List.mem_cons.1 h1 with h1 | h1
      · exact h1
      · rcases List.mem_cons.1 h2 with h2 | h2
        · exact h2.symm
        · exact absurd ((ha1 y h2).trans (hb1 x h1)) (irr x)
    subst hxy
    have : a = b := lex_ext ha2 hb2 fun z => by
      constructor
      · intro hz
        rcases List.mem_cons.1 ((h z).1 (by simp [hz])) with e | e
        · subst e; exact absurd (ha1 z hz) (irr z)
        · exact e
      · intro hz
        rcases List.mem_cons.1 ((h z).2 (by simp [hz])) with e | e
        · subst e; exact absurd (hb1 z hz) (irr z)
        · exact e
    rw [this]
def els (n : Nat) (f : Arr) : List El := (List.range n).map f
theorem els_sorted {n : Nat} {f : Arr} (h : SortedOn f 0 n) : (els n f).Pairwise lex := by
  rw [els, List.pairwise_map]
  exact List.Pairwise.imp_of_mem (fun {i j} hi hj hij => h i j (Nat.zero_le _) hij (List.mem_range.1 hj)) List.pairwise_lt_range
theorem arr_ads (l : List Ad) : (els l.length (arrOf l)).map El.ad = l := by
  rw [els, List.map_map]
  apply List.ext_getElem?
  intro i
  by_cases hi : i < l.length
  · rw [List.getElem?_map, List.getElem?_range hi, List.getElem?_eq_getElem hi]
    simp [arrOf, List.getD_eq_getElem?_getD, hi]
  · rw [List.getElem?_eq_none (by simp; omega), List.getElem?_eq_none (by omega)]
theorem fcells_ads (n : Nat) (f : Arr) : fcells n f = adcells ((els n f).map El.ad) := by
  rw [fcells, adcells, els, List.flatMap_map, List.flatMap_map]
def sortE (l : List El) : List El := kinds.flatMap (fun k => l.filter (fun x => x.kd == k))
theorem sortE_sorted {n : Nat} (l : List Ad) (_hn : l.length = n) : (sortE (els n (arrOf l))).Pairwise lex := by
  rw [sortE, List.pairwise_flatMap]
  constructor
  · intro k _
    have h1 : (els n (arrOf l)).Pairwise (fun x y => x.tag < y.tag) := by
      rw [els, List.pairwise_map]
      exact List.pairwise_lt_range
    have h2 := h1.filter (fun x => x.kd == k)
    refine List.Pairwise.imp_of_mem (fun {x y} hx hy hxy => ?_) h2
    have e1 : x.kd = k := by simpa using (List.mem_filter.1 hx).2
    have e2 : y.kd = k := by simpa using (List.mem_filter.1 hy).2
    exact .inr ⟨by omega, hxy⟩
  · have : kinds.Pairwise (· < ·) := by decide
    refine this.imp (fun {k1 k2} h x hx y hy => ?_)
    have e1 : x.kd = k1 := by simpa using (List.mem_filter.1 hx).2
    have e2 : y.kd = k2 := by simpa using (List.mem_filter.1 hy).2
    exact .inl (by omega)
theorem kinds_mem {k : Int} (h1 : 1 ≤ k) (h9 : k ≤ 9) : k ∈ kinds := by
  simp only [kinds, List.mem_cons, List.not_mem_nil, or_false]; omega
theorem sortE_mem {l : List El} (h : ∀ x ∈ l, 1 ≤ x.kd ∧ x.kd ≤ 9) (x : El) : x ∈ sortE l ↔ x ∈ l := by
  rw [sortE, List.mem_flatMap]
  constructor
  · rintro ⟨k, _, hx⟩; exact (List.mem_filter.1 hx).1
  · intro hx
    have := h x hx
    exact ⟨x.kd, kinds_mem this.1 this.2, List.mem_filter.2 ⟨hx, by simp⟩⟩
theorem sorted_is {l : List Ad} {G : Arr} (hk : ∀ a ∈ l, 1 ≤ a.s.kd ∧ a.s.kd ≤ 9) (hp : PermOn 0 l.length (arrOf l) G) (hs : SortedOn G 0 l.length) : (els l.length G).map El.ad = sortA l := by
  have hkd : ∀ x ∈ els l.length (arrOf l), 1 ≤ x.kd ∧ x.kd ≤ 9 := by
    intro x hx
    have h1 : x.ad ∈ (els l.length (arrOf l)).map El.ad := List.mem_map.2 ⟨x, hx, rfl⟩
    rw [arr_ads] at h1
    exact hk _ h1
  have e : els l.length G = sortE (els l.length (arrOf l)) := by
    refine lex_ext (els_sorted hs) (sortE_sorted l rfl) (fun x => ?_)
    rw [sortE_mem hkd]
    simp only [els, List.mem_map, List.mem_range]
    constructor
    · rintro ⟨i, hi, rfl⟩
      obtain ⟨j, hj, e⟩ := hp.in_ (i := i) ⟨Nat.zero_le _, hi⟩
      exact ⟨j, hj.2, e.symm⟩
    · rintro ⟨i, hi, rfl⟩
      obtain ⟨j, hj, e⟩ := hp.inv.in_ (i := i) ⟨Nat.zero_le _, hi⟩
      exact ⟨j, hj.2, e.symm⟩
  rw [e, sortE, List.map_flatMap, sortA]
  congr 1
  funext k
  have h2 : (List.filter (fun x => x.kd == k) (els l.length (arrOf l))).map El.ad = ((els l.length (arrOf l)).map El.ad).filter (fun a => a.s.kd == k) := by
    rw [List.filter_map]; rfl
  rw [h2, arr_ads]
theorem sortA_keys (l : List Ad) : (sortA l).map (fun a => a.s.key) = rebK (l.map (fun a => a.s.key)) := by
  rw [sortA, rebK, List.map_flatMap]
  congr 1
  funext k
  rw [List.filter_map]; rfl
theorem sortA_mem {l : List Ad} {a : Ad} (h : a ∈ sortA l) : a ∈ l := by
  rw [sortA, List.mem_flatMap] at h
  obtain ⟨k, _, h⟩ := h
  exact (List.mem_filter.1 h).1
def SortPost (w : World) (base : Nat) (A : Option Addr) (c : Nat) (l : List Ad) (e : Ending) (w' : World) : Prop := e = .returned (.tuple #[]) ∧ Own w' base 77 3 (.slice A l.length c) l.length (adcells (sortA l)) ∧ Keep (fun i => base ≤ i) w w'
set_option maxRecDepth 100000 in
set_option maxHeartbeats 4000000 in
theorem ins_nil (w : World) : Calls Tryd.prog 53 #[.slice none 0 0, .int .i64 0, .int .i64 0, (.func (.func 47) #[] #[])] w (fun e w' => e = .returned (.tuple #[]) ∧ w' = w) := by
  go_enter Tryd.func53, Tryd.ntmps53
  go_wp2
  refine wp_loop_rounds 1 ?_
  rw [rounds_succ]
  go_wp2
  go_end0
  exact ⟨rfl, rfl⟩
set_option maxRecDepth 100000 in
set_option maxHeartbeats 4000000 in
theorem stable_nil (w : World) : Calls Tryd.prog 50 #[.slice none 0 0, .int .i64 0, (.func (.func 47) #[] #[])] w (fun e w' => e = .returned (.tuple #[]) ∧ w' = w) := by
  have HI := hid (ins_nil w)
  go_enter Tryd.func50, Tryd.ntmps50
  go_wp2_with fail
  refine wp_loop_rounds 1 ?_
  rw [rounds_succ]
  go_wp2_with ((with_reducible refine HI.out.mono ?_); rintro e w2 ⟨rfl, rfl⟩)
  refine wp_loop_rounds 1 ?_
  rw [rounds_succ]
  go_wp2_with fail
  go_end0
  exact ⟨rfl, rfl⟩
set_option maxRecDepth 100000 in
set_option maxHeartbeats 4000000 in
theorem sort_nil (w : World) : Calls Tryd.prog 46 #[.slice none 0 0, (.func (.func 47) #[] #[])] w (fun e w' => e = .returned (.tuple #[]) ∧ w' = w) := by
  have HI := hid (stable_nil w)
  go_enter Tryd.func46, Tryd.ntmps46
  go_wp2_with ((with_reducible refine HI.out.mono ?_); rintro e w2 ⟨rfl, rfl⟩)
  go_end0
  exact ⟨rfl, rfl⟩
theorem sort_own (w : World) (base : Nat) (A : Option Addr) (c : Nat) (l : List Ad) (h : Own w base 77 3 (.slice A l.length c) l.length (adcells l)) (hn : l.length ≤ 1000) (hk : ∀ a ∈ l, 1 ≤ a.s.kd ∧ a.s.kd ≤ 9) :
    Calls Tryd.prog 46 #[.slice A l.length c, (.func (.func 47) #[] #[])] w (SortPost w base A c l) := by
  rcases h.2 with ⟨hv, h0⟩ | ⟨g, cap, cur, hv, hb, hh, r⟩
  · injection hv with e1 e2 e3
    have hl : l = [] := List.eq_nil_of_length_eq_zero h0
    subst hl e1 e3
    refine (sort_nil w).mono ?_
    rintro e w' ⟨rfl, rfl⟩
    exact ⟨rfl, h, Keep.refl _ _⟩
  · injection hv with e1 e2 e3
    subst e1 e3
    have hr : Rw w base g l.length c (arrOf l) := by
      show Own w base 77 3 _ l.length (fcells l.length (arrOf l))
      rw [fcells_ads, arr_ads]; exact h
    have hkd : KdOk (arrOf l) := by
      intro i
      show 0 ≤ (l.getD i dfl).s.kd ∧ (l.getD i dfl).s.kd ≤ 9
      by_cases hi : i < l.length
      · rw [List.getD_eq_getElem?_getD, List.getElem?_eq_getElem hi]
        have := hk _ (List.getElem_mem hi)
        simp only [Option.getD_some]; omega
      · rw [List.getD_eq_getElem?_getD, List.getElem?_eq_none (by omega)]
        show 0 ≤ (1 : Int) ∧ (1 : Int) ≤ 9
        omega
    refine (sort_any w base g l.length c (arrOf l) hr hn hkd (fun i j _ h2 _ _ => h2)).mono ?_
    rintro e w' ⟨rfl, G, h1, h2, h3, h4⟩
    have h5 : Own w' base 77 3 (.slice (some ⟨g, 0, none⟩) l.length c) l.length (fcells l.length G) := h1
    rw [fcells_ads, sorted_is hk h2 h3] at h5
    exact ⟨rfl, h5, h4.wide (fun i _ e => by have e2 : i = g := e; omega)⟩
set_option maxRecDepth 100000 in
set_option maxHeartbeats 4000000 in
theorem clonead_any (w : World) (Av : Nat → Prop) (A : Option Addr) (c : Nat) (l : List Ad) (h : Sl w Av 3 A l.length (adcells l)) (hn : l.length ≤ 1000000) :
    Calls Tryd.prog 45 #[.slice A l.length c] w fun e w' => ∃ A' c', e = .returned (.slice A' l.length c') ∧ Own w' w.heap.size 77 3 (.slice A' l.length c') l.length (adcells l) ∧ Same w w' := by
  have q22 := fun (w : World) (a : Option Addr) (n c n' c' : Nat) => Lib.run_eql_slice_nil (P := Tryd.prog) w _ _ a n c n' c' Tryd.underlying67
  have hK0 : Same w (w.alloc (.cells #[] 77)) := (Keep.refl _ _).alloc _
  have hl := h.len
  cases A with
  | none =>
    have h0 : l.length = 0 := by
      by_cases hz : l.length = 0
      · exact hz
      · obtain ⟨b, off, e, _⟩ := h.at_ (by omega)
        cases e
    have HN := hid h0
    clear h h0 hl
    go_enter Tryd.func45, Tryd.ntmps45
    go_wp2_with fail
    go_ret
    have hh := List.length_eq_zero_iff.1 HN.out
    subst hh
    exact ⟨none, 0, rfl, Own.nil _ _ _ _, Keep.refl _ _⟩
  | some ad =>
    have HH := hid h
    have HL := hid hl
    have HK0 := hid hK0
    have hsrc := hid (h.src hK0)
    have HO1 := hid (show ∀ u ∈ adcells l, u.oneCell' = true from by
      intro u hu
      simp only [adcells, List.mem_flatMap] at hu
      obtain ⟨a, _, h⟩ := hu
      exact ad_one2 a u h)
    clear h hl hK0
    go_enter Tryd.func45, Tryd.ntmps45
    go_wp2_with (at_builtin; refine EAd.law (.tmp 5) (.tmp 6) (.slice (some ⟨w.heap.size, 0, none⟩) 0 0) (some ad) l.length c rfl rfl rfl rfl w.heap.size 0 [] (adcells l) (Own.lit0 w _ 3) HL.out hsrc.out HO1.out (by omega) (by unfold maxLen; omega) (by simp) ?_; intro A' c' w1 hown hg; have HOW := hid hown; have HG := hid hg; clear hown hg)
    go_ret
    have hown := HOW.out
    simp only [Nat.zero_add, List.nil_append] at hown ⊢
    exact ⟨A', c', rfl, hown, HK0.out.app (Own.lit0 w _ 3) HG.out (fun g h1 h2 => by omega)⟩
end Go.Proofs.YtafpcffhkbeloaaDoor

import Derived.Test.YtmllpapkgfclkaaScG
import Derived.WalkLawsBesides
import Derived.Lib.SliceRun
namespace Go.Proofs.Ytmllpapkgfclkaa
open Go.RowKit

theorem Own.lit0 (w : World) (e : TypeId) (size : Nat) : Own (w.alloc (.cells #[] e)) w.heap.size e size (.slice (some ⟨w.heap.size, 0, none⟩) 0 0) 0 [] :=
  Own.of_blk (Nat.le_refl _) (Blk.made w e #[]) (Nat.le_refl _) (Nat.zero_le _) (by simp) (by simp)
def ClonePost (w : World) (l : List E3) (e : Ending) (w' : World) : Prop := ∃ A c, e = .returned (.slice A l.length c) ∧ Sl w' (fun _ => False) 3 A l.length (e3cells l) ∧ Same w w'
set_option maxRecDepth 100000 in
set_option maxHeartbeats 4000000 in
theorem cloneE_any (w : World) (A : Option Addr) (c : Nat) (l : List E3) (hl : Sl w (fun _ => False) 3 A l.length (e3cells l)) (hn : l.length ≤ 16384) :
    Calls Try.prog 17 #[.slice A l.length c] w (ClonePost w l) := by
  rcases A with _ | ad
  · have hz : l.length = 0 := by
      rcases Nat.eq_zero_or_pos l.length with h | h
      · exact h
      · obtain ⟨b, off, e, _⟩ := hl.at_ h; cases e
    have hl0 : l = [] := List.eq_nil_of_length_eq_zero hz
    subst hl0
    clear hl hz hn
    simp only [List.length_nil]
    have q22 := fun (w : World) (a : Option Addr) (n c n' c' : Nat) => Lib.run_eql_slice_nil (P := Try.prog) w _ _ a n c n' c' Try.underlying22
    go_enter Try.func17, Try.ntmps17
    go_wp2
    go_ret
    exact ⟨none, _, rfl, Sl.nil _ _ _ _, Keep.refl _ _⟩
  · have HL := hid hl
    have HLN := hid (hl.len)
    clear hl
    have q22 := fun (w : World) (a : Option Addr) (n c n' c' : Nat) => Lib.run_eql_slice_nil (P := Try.prog) w _ _ a n c n' c' Try.underlying22
    go_enter Try.func17, Try.ntmps17
    go_wp2_with (refine EEd.law2 (.tmp 5) (.tmp 6) (.slice (some ⟨w.heap.size, 0, none⟩) 0 0) (some ad) l.length c rfl rfl rfl rfl w.heap.size 0 [] (e3cells l) l.length (e3cells l) (Nat.zero_add _) (List.nil_append _) (Own.lit0 w _ 3) HLN.out (Sl.src HL.out ((Keep.refl _ w).alloc _)) (e3_one l) (by omega) (by unfold maxLen; omega) (by simp) ?_; intro A7 c7 w7 ho7 hg7 hw7; have HO7 := hid ho7; have HK7 := hid (((Keep.refl (fun _ => False) w).alloc (.cells #[] 49)).grown hg7 (fun x e h => by have := (Own.lit0 w 49 3).block x e; omega)); clear ho7 hg7 hw7)
    go_ret
    exact ⟨A7, c7, rfl, HO7.out.slN.wide (fun _ _ f => f.elim), HK7.out⟩

def NewG (w : World) (N : Nat) (l : List E3) (e : Ending) (w' : World) : Prop :=
  (l.all (edgeB N) = true → ∃ g E cE po pi, e = .returned (.tuple #[.pointer (some ⟨g, 0, none⟩), .int .i64 0]) ∧ IsG w' g N l E cE po pi) ∧ (l.all (edgeB N) = false → e = .returned (.tuple #[.pointer none, .int .i64 1])) ∧ Same w w'
theorem edgeB_all {N : Nat} {l : List E3} (h : l.all (edgeB N) = true) : ∀ e ∈ l, (0 ≤ e.a ∧ e.a < N) ∧ 0 ≤ e.b ∧ e.b < N := by
  intro e he
  have := List.all_eq_true.1 h e he
  unfold edgeB inB at this
  simp only [Bool.and_eq_true, decide_eq_true_eq] at this
  exact ⟨this.1.1, this.1.2⟩
set_option maxRecDepth 100000 in
set_option maxHeartbeats 4000000 in
theorem newG_any (w : World) (N : Nat) (A : Option Addr) (c : Nat) (l : List E3) (h1 : 1 ≤ N) (h2 : N ≤ 4096) (hl : Sl w (fun _ => False) 3 A l.length (e3cells l)) (hn : l.length ≤ 16384) :
    Calls Try.prog 6 #[.int .i64 N, .slice A l.length c] w (NewG w N l) := by
  have HL := hid hl
  clear hl
  go_enter Try.func6, Try.ntmps6
  go_wp2_with fail
  go_loopw [19] (fun i wr => ∃ k : Nat, k ≤ l.length ∧ i = .int .i64 k ∧ Hid (Same w wr ∧ (l.take k).all (edgeB N) = true)) (fun i _ => l.length - (RowKit.intOf i).toNat)
  case atStart => exact ⟨0, Nat.zero_le _, rfl, hid ⟨Keep.refl _ _, by simp⟩⟩
  case round =>
    obtain ⟨k, hk, rfl, HI⟩ := hrel
    by_cases hkn : k < l.length
    · obtain ⟨e, he⟩ := get_some hkn
      obtain ⟨b1, o1, rfl, hb1, x0, x1, x2⟩ := e3_at (HL.out.same HI.out.1) he
      have HT := hid (take_all (p := edgeB N) he)
      have HNO := hid (fun (h : edgeB N e = false) => all_no he h)
      have HK := hid (HI.out.1.alloc (.cells #[.int .i64 e.a, .int .i64 e.b, .int .i64 e.c] 49))
      have HEB := hid (show edgeB N e = (decide (0 ≤ e.a) && decide (e.a < (N : Int)) && (decide (0 ≤ e.b) && decide (e.b < (N : Int))) && (decide (1 ≤ e.c) && decide (e.c ≤ 1048576) || e.c == 4611686018427387904)) from rfl)
      clear he
      generalize edgeB N e = vb at *
      obtain ⟨ea, eb, ec⟩ := e
      simp only at x0 x1 x2 HK HEB
      have hk0 : (0 : Int) ≤ (k : Int) := Int.natCast_nonneg _
      have hk1 : (k : Int) < (l.length : Int) := by omega
      rcases (show ea < 0 ∨ (0 ≤ ea ∧ (N : Int) ≤ ea) ∨ (0 ≤ ea ∧ ea < (N : Int) ∧ eb < 0) ∨ (0 ≤ ea ∧ ea < (N : Int) ∧ 0 ≤ eb ∧ (N : Int) ≤ eb) ∨ (0 ≤ ea ∧ ea < (N : Int) ∧ 0 ≤ eb ∧ eb < (N : Int) ∧ ec < 1) ∨ (0 ≤ ea ∧ ea < (N : Int) ∧ 0 ≤ eb ∧ eb < (N : Int) ∧ 1 ≤ ec ∧ ec ≤ 1048576) ∨ (0 ≤ ea ∧ ea < (N : Int) ∧ 0 ≤ eb ∧ eb < (N : Int) ∧ 1048576 < ec) from by omega) with g0 | ⟨g0, g1⟩ | ⟨g0, g1, g2⟩ | ⟨g0, g1, g2, g3⟩ | ⟨g0, g1, g2, g3, g4⟩ | ⟨g0, g1, g2, g3, g4, g5⟩ | ⟨g0, g1, g2, g3, g4⟩
      · have hv : vb = false := by rw [HEB.out, decide_eq_false (by omega)]; rfl
        have HF := hid (HNO.out hv)
        clear hv HEB HNO HT
        go_wp2_with fail
        go_ret2
        exact ⟨fun h => absurd h (by rw [HF.out]; exact Bool.false_ne_true), fun _ => rfl, HK.out⟩
      · have hv : vb = false := by rw [HEB.out, decide_eq_true g0, decide_eq_false (show ¬ ea < (N : Int) by omega)]; rfl
        have HF := hid (HNO.out hv)
        clear hv HEB HNO HT
        go_wp2_with fail
        go_ret2
        exact ⟨fun h => absurd h (by rw [HF.out]; exact Bool.false_ne_true), fun _ => rfl, HK.out⟩
      · have hv : vb = false := by rw [HEB.out, decide_eq_false (show ¬ 0 ≤ eb by omega)]; simp
        have HF := hid (HNO.out hv)
        clear hv HEB HNO HT
        go_wp2_with fail
        go_ret2
        exact ⟨fun h => absurd h (by rw [HF.out]; exact Bool.false_ne_true), fun _ => rfl, HK.out⟩
      · have hv : vb = false := by rw [HEB.out, decide_eq_false (show ¬ eb < (N : Int) by omega)]; simp
        have HF := hid (HNO.out hv)
        clear hv HEB HNO HT
        go_wp2_with fail
        go_ret2
        exact ⟨fun h => absurd h (by rw [HF.out]; exact Bool.false_ne_true), fun _ => rfl, HK.out⟩
      · have hv : vb = false := by
          have hq : (ec == 4611686018427387904) = false := by simp; omega
          rw [HEB.out, decide_eq_false (show ¬ 1 ≤ ec by omega), hq]; simp
        have HF := hid (HNO.out hv)
        have hq : (ec != 4611686018427387904) = true := by simp; omega
        clear hv HEB HNO HT
        go_wp2_with fail
        go_ret2
        exact ⟨fun h => absurd h (by rw [HF.out]; exact Bool.false_ne_true), fun _ => rfl, HK.out⟩
      · have hv : vb = true := by rw [HEB.out, decide_eq_true g0, decide_eq_true g1, decide_eq_true g2, decide_eq_true g3, decide_eq_true g4, decide_eq_true g5]; rfl
        have HF := hid (show (l.take (k + 1)).all (edgeB N) = true by rw [HT.out, HI.out.2, hv]; rfl)
        clear hv HEB HNO HT
        go_wp2_with fail
        go_round
        case rel => exact ⟨k + 1, by omega, by go_num, hid ⟨HK.out, HF.out⟩⟩
        case measure => simp [RowKit.intOf]; omega
      · by_cases hinf : ec = 4611686018427387904
        · have hv : vb = true := by rw [HEB.out, decide_eq_true g0, decide_eq_true g1, decide_eq_true g2, decide_eq_true g3, hinf]; simp
          have HF := hid (show (l.take (k + 1)).all (edgeB N) = true by rw [HT.out, HI.out.2, hv]; rfl)
          have hq : (ec != 4611686018427387904) = false := by simp [hinf]
          clear hv HEB HNO HT hinf
          go_wp2_with fail
          go_round
          case rel => exact ⟨k + 1, by omega, by go_num, hid ⟨HK.out, HF.out⟩⟩
          case measure => simp [RowKit.intOf]; omega
        · have hv : vb = false := by
            have hq : (ec == 4611686018427387904) = false := by simpa using hinf
            rw [HEB.out, decide_eq_false (show ¬ ec ≤ 1048576 by omega), hq]; simp
          have HF := hid (HNO.out hv)
          have hq : (ec != 4611686018427387904) = true := by simpa using hinf
          clear hv HEB HNO HT hinf
          go_wp2_with fail
          go_ret2
          exact ⟨fun h => absurd h (by rw [HF.out]; exact Bool.false_ne_true), fun _ => rfl, HK.out⟩
    · have hke : k = l.length := by omega
      subst hke
      have ha := HI.out.2
      rw [List.take_length] at ha
      have HA := hid ha
      have HCL := hid (cloneE_any wr A c l (HL.out.same HI.out.1) hn)
      clear ha
      go_wp2_with fail
      (with_reducible refine HCL.out.mono ?_)
      rintro e w2 ⟨A2, c2, rfl, hs2, hk2⟩
      have HBD := hid (build_any w2 N A2 c2 l hs2 h2 hn (edgeB_all HA.out))
      have HK2 := hid (HI.out.1.then hk2)
      clear hs2 hk2
      go_wp2_with fail
      (with_reducible refine HBD.out.mono ?_)
      rintro e w3 ⟨g, E, cE, po, pi, rfl, hg, hk3⟩
      have HG := hid hg
      have HK3 := hid (HK2.out.then hk3)
      clear hg hk3
      go_wp2_with fail
      go_ret2
      exact ⟨fun _ => ⟨g, E, cE, po, pi, rfl, HG.out⟩, fun h => absurd HA.out (by rw [h]; exact Bool.false_ne_true), HK3.out⟩
end Go.Proofs.Ytmllpapkgfclkaa

import Derived.Test.YtnejacmmbfeneaaDoorScA
namespace Go.Proofs.YtnejacmmbfeneaaDoor
open Go.RowKit
set_option maxHeartbeats 1000000 in
theorem dpick_any (w : World) (b : Nat) (s : Int) (A : Option Addr) (n c : Nat) (l : List Int) (hG : Gn w 60 b s) (hn : n ≤ 30) (Av : Nat → Prop) (hAv : Av b) (hA : Sl w Av 1 A n (l.map (Value.int .i64))) :
    Calls Tryd.prog 20 #[.pointer (some ⟨b, 0, none⟩), .slice A n c] w (GPost 60 w b (.int .i64 (pick l s)) (pickA l s)) := by
  have hl : l.length = n := by simpa using hA.len
  have HA := hid hA
  have HG := hid hG
  clear hA hG
  go_enter Tryd.func20, Tryd.ntmps20
  go_wp2
  go_loop [5, 13] (fun v i => ∃ k : Nat, k ≤ n ∧ i = .int .i64 k ∧ v = .int .i64 (wsum (l.take k))) (fun _ i => n - (intOf i).toNat)
  case atStart => exact ⟨0, by omega, rfl, by simp [wsum]⟩
  case round =>
    obtain ⟨k, hk, rfl, rfl⟩ := hrel
    have hs := wsum_in (l.take k)
    have hlt := List.length_take_le k l
    obtain ⟨hs1, hs2⟩ := hs
    by_cases hkn : k < n
    · obtain ⟨x, hx⟩ := get_some (l := l) (k := k) (by omega)
      obtain ⟨bb, off, rfl, hb, _, hr⟩ := HA.out.at_ (by omega)
      have hc : w.cell? ⟨bb, off + k, none⟩ = some (.int .i64 x) := hr k _ (by simp [hx])
      have hw := hid (wsum_snoc hx)
      have hcw := cw_in x
      obtain ⟨hc1, hc2⟩ := hcw
      clear hx hr
      generalize wsum (l.take k) = S at *
      go_wp2_with (go_at_call 37; refine (weight_any _ _).mono ?_; rintro e w' ⟨rfl, rfl⟩)
      go_round
      case rel => exact ⟨k + 1, by omega, by go_num, by rw [hw.out]⟩
      case measure => simp [intOf]; omega
    · obtain rfl : k = n := by omega
      have ht : l.take k = l := List.take_of_length_le (by omega)
      rw [ht] at hs1 hs2 ⊢
      have hs3 : wsum l ≤ 30000 := by omega
      have hll := hid hl
      clear ht hl hs2
      by_cases h0 : wsum l = 0
      · have e1 := hid (show pick l s = -1 by simp [pick, h0])
        have e2 := hid (show pickA l s = s by simp [pickA, h0])
        generalize wsum l = S at *
        subst h0
        go_wp2
        go_ret
        exact ⟨by rw [e1.out]; rfl, by rw [e2.out]; exact HG.out, Keep.refl _ _⟩
      · have e1 := hid (show pick l s = idx l (roll (wsum l) s) 0 by simp [pick, h0])
        have e2 := hid (show pickA l s = aft (wsum l) s by simp [pickA, h0])
        have hri := roll_in (wsum l) s (by omega)
        obtain ⟨r1, r2⟩ := hri
        have hd := hid (roll_any w b s (wsum l) HG.out (by have := hll.out; omega))
        have h0' : (wsum l == 0) = false := by simpa using h0
        clear h0
        generalize wsum l = S at *
        generalize roll S s = R at *
        generalize aft S s = s' at *
        go_wp2_with (go_at_call 19; refine (Hid.out hd).mono ?_; rintro e w1 ⟨rfl, hg1, hk1⟩)
        have HA1 := hid (HA.out.keep hk1 (fun i _ h => by rw [h]; exact hAv))
        have HG1 := hid hg1
        have HK1 := hid hk1
        clear hg1 hk1
        go_loop [8, 29] (fun v i => ∃ (j : Nat) (x : Int), j ≤ k ∧ i = .int .i64 j ∧ v = .int .i64 x ∧ 0 ≤ x ∧ x ≤ R ∧ idx l R 0 = idx (l.drop j) x j) (fun _ i => k - (intOf i).toNat)
        case atStart => exact ⟨0, R, by omega, rfl, rfl, r1, by omega, by simp⟩
        case round =>
          obtain ⟨j, x, hj, rfl, rfl, hx0, hxR, hi⟩ := hrel
          by_cases hjn : j < k
          · obtain ⟨y, hy⟩ := get_some (l := l) (k := j) (by have := hll.out; omega)
            obtain ⟨bb, off, rfl, hb, _, hr⟩ := HA1.out.at_ (by omega)
            have hc : w1.cell? ⟨bb, off + j, none⟩ = some (.int .i64 y) := hr j _ (by simp [hy])
            rw [drop_cons hy] at hi
            have hcw := cw_in y
            obtain ⟨hc1, hc2⟩ := hcw
            clear hr hy
            by_cases hlt : x < cw y
            · have Hi := hid (show idx l R 0 = j by rw [hi, idx, if_pos hlt])
              clear hi
              go_wp2_with (go_at_call 37; refine (weight_any _ _).mono ?_; rintro e w' ⟨rfl, rfl⟩)
              go_ret
              exact ⟨by rw [e1.out, Hi.out]; rfl, by rw [e2.out]; exact HG1.out, HK1.out⟩
            · have Hi := hid (show idx l R 0 = idx (l.drop (j + 1)) (x - cw y) (j + 1) by rw [hi, idx, if_neg hlt])
              clear hi
              have hlt' : 0 ≤ x - cw y := by omega
              go_wp2_with (go_at_call 37; refine (weight_any _ _).mono ?_; rintro e w' ⟨rfl, rfl⟩)
              go_round
              case rel => exact ⟨j + 1, x - cw y, by omega, by go_num, rfl, hlt', by omega, by rw [Hi.out]; rfl⟩
              case measure => simp [intOf]; omega
          · obtain rfl : j = k := by omega
            have ht : l.drop j = [] := List.drop_eq_nil_of_le (by have := hll.out; omega)
            rw [ht] at hi
            have Hi := hid hi
            clear hi ht
            go_wp2
            go_ret
            exact ⟨by rw [e1.out, Hi.out]; rfl, by rw [e2.out]; exact HG1.out, HK1.out⟩

/-! ## NewRand, the example -/
theorem newrand_any (w : World) (s : Int) (_h0 : 0 ≤ s) (_h1 : s ≤ 18446744073709551615) : Calls Tryd.prog 13 #[.int .u64 s] w fun e w' => e = .returned (.pointer (some ⟨w.heap.size, 0, none⟩)) ∧ w.alloc (.cells #[.int .u64 s] 84) = w' := by
  go_enter Tryd.func13, Tryd.ntmps13
  go_wp2
  go_ret
  exact ⟨rfl, rfl⟩
theorem Gn.new {w : World} {t : TypeId} {s : Int} (h0 : 0 ≤ s) (h1 : s ≤ 18446744073709551615) : Gn (w.alloc (.cells #[.int .u64 s] t)) t w.heap.size s := ⟨Blk.made w t _, h0, h1⟩
theorem Gn.keep {S : Nat → Prop} {w w' : World} {t : TypeId} {b : Nat} {s : Int} (h : Gn w t b s) (hk : Keep S w w') (hn : ¬ S b) : Gn w' t b s := ⟨h.blk.keep hk hn, h.lo, h.hi⟩

set_option maxHeartbeats 1000000 in
theorem awake_any (w : World) : Calls Tryd.prog 7 #[] w fun e w' => e = .returned (.bool true) ∧ Same w w' := by
  have e5 : roll 10 0 = 5 := by kernel_rfl
  have hd := intn_any (w.alloc (.cells #[.int .u64 0] 84)) w.heap.size 0 10 (Gn.new (by omega) (by omega)) (by omega)
  rw [e5] at hd
  have hd := hid hd
  clear e5
  go_enter Tryd.func7, Tryd.ntmps7
  go_wp2_with (first
    | (go_at_call 13; refine (newrand_any w 0 (by omega) (by omega)).mono ?_; rintro e w' ⟨rfl, rfl⟩)
    | (go_at_call 16; refine hd.out.mono ?_; rintro e w1 ⟨rfl, hg, hk⟩))
  go_ret
  exact ⟨rfl, ((Keep.refl (fun _ => False) w).alloc _).trans hk (fun i hi h => by omega)⟩
end Go.Proofs.YtnejacmmbfeneaaDoor

import Derived.Test.YtnejacmmbfeneaaDice
namespace Go.Proofs.Ytnejacmmbfeneaa
open Go.RowKit

theorem cw_pos {x : Int} (h : 0 < cw x) : 0 < x := by unfold cw at h; split at h <;> (try split at h) <;> omega
theorem pos_cw {x : Int} (h : 0 < x) : 0 < cw x := by unfold cw; split <;> (try split) <;> omega
theorem wsum_cons (a : Int) (l : List Int) : wsum (a :: l) = cw a + wsum l := by simp [wsum]
theorem idx_in : ∀ (l : List Int) (x i : Int), 0 ≤ x → x < wsum l → ∃ j : Nat, ∃ y, idx l x i = i + j ∧ l[j]? = some y ∧ 0 < y
  | [], x, i, h0, h1 => by simp [wsum] at h1; omega
  | w :: r, x, i, h0, h1 => by
    rw [wsum_cons] at h1
    by_cases h : x < cw w
    · exact ⟨0, w, by rw [idx, if_pos h]; simp, rfl, cw_pos (by omega)⟩
    · obtain ⟨j, y, e, hy, hp⟩ := idx_in r (x - cw w) (i + 1) (by omega) (by omega)
      exact ⟨j + 1, y, by rw [idx, if_neg h, e]; omega, by simpa using hy, hp⟩
theorem wsum_any : ∀ l : List Int, (l.any (fun x => decide (0 < x)) = false → wsum l = 0) ∧ (l.any (fun x => decide (0 < x)) = true → 0 < wsum l)
  | [] => by simp [wsum]
  | a :: l => by
    obtain ⟨h1, h2⟩ := wsum_any l
    have hc := cw_in a
    have hw := wsum_in l
    rw [wsum_cons]
    simp only [List.any_cons]
    by_cases ha : 0 < a
    · have := pos_cw ha
      simp [ha]; omega
    · have : cw a = 0 := by unfold cw; split <;> (try split) <;> omega
      simp only [ha, decide_false, Bool.false_or, this]
      exact ⟨fun h => by rw [h1 h]; rfl, fun h => by have := h2 h; omega⟩
def pos (l : List Int) : Bool := l.any (fun x => decide (0 < x))
theorem pick_law (l : List Int) (s : Int) : (pos l = false ∧ pick l s = -1) ∨ (pos l = true ∧ ∃ j : Nat, ∃ y, pick l s = j ∧ l[j]? = some y ∧ 0 < y) := by
  obtain ⟨h1, h2⟩ := wsum_any l
  unfold pos
  cases h : l.any (fun x => decide (0 < x))
  · exact .inl ⟨rfl, by rw [pick, if_pos (h1 h)]⟩
  · have hp := h2 h
    have hr := roll_in (wsum l) s (by omega)
    obtain ⟨j, y, e, hy, hp'⟩ := idx_in l (roll (wsum l) s) 0 hr.1 hr.2
    exact .inr ⟨rfl, j, y, by rw [pick, if_neg (by omega), e]; omega, hy, hp'⟩

theorem pos_snoc {l : List Int} {k : Nat} {a : Int} (h : l[k]? = some a) : pos (l.take (k + 1)) = (pos (l.take k) || decide (0 < a)) := by
  rw [take_snoc h]; simp [pos]

set_option maxHeartbeats 2000000 in
theorem scenarioPick_walk (w : World) (s : Int) (h0 : 0 ≤ s) (h1 : s ≤ 18446744073709551615) (A : Option Addr) (n c : Nat) (l : List Int) (m : Int) (hm : m ≤ 9223372036854775807) (hA : Sl w (fun _ => False) 1 A n (l.map (Value.int .i64))) :
    Calls Try.prog 3 #[.int .u64 s, .slice A n c, .int .i64 m] w fun e w' => e = .returned (.bool true) ∧ Same w w' := by
  have hl : l.length = n := by simpa using hA.len
  by_cases hn : 30 < n
  · clear hA hl
    go_enter Try.func3, Try.ntmps3
    go_wp2_with (go_at_call 9; refine (awake_any _).mono ?_; rintro e w' ⟨rfl, hk⟩)
    go_ret
    exact ⟨rfl, hk⟩
  · have hn' : n ≤ 30 := by omega
    clear hn
    have hG := Gn.new (w := w) (t := 63) h0 h1
    have hk0 : Same w (w.alloc (.cells #[.int .u64 s] 63)) := (Keep.refl _ _).alloc _
    have HA := hid ((hA.old.same hk0).wide (Av' := fun i => i = w.heap.size) (fun i _ hi => by omega))
    have HP := hid (pick_any _ _ s A n c l hG hn' (fun i => i = w.heap.size) rfl HA.out)
    have hz := pickA l s
    clear hA
    go_enter Try.func3, Try.ntmps3
    go_wp2_with (go_at_call 10; refine (newrand_any w s h0 h1).mono ?_; rintro e w' ⟨rfl, rfl⟩)
    go_loop [8, 23] (fun v i => ∃ k : Nat, k ≤ n ∧ i = .int .i64 k ∧ v = .bool (pos (l.take k))) (fun _ i => n - (intOf i).toNat)
    case atStart => exact ⟨0, by omega, rfl, by simp [pos]⟩
    case round =>
      obtain ⟨k, hk, rfl, rfl⟩ := hrel
      by_cases hkn : k < n
      · obtain ⟨x, hx⟩ := get_some (l := l) (k := k) (by omega)
        obtain ⟨bb, off, rfl, hb, _, hr⟩ := HA.out.at_ (by omega)
        have hc : (w.alloc (.cells #[.int .u64 s] 63)).cell? ⟨bb, off + k, none⟩ = some (.int .i64 x) := hr k _ (by simp [hx])
        have hp := hid (pos_snoc hx)
        clear hx hr
        by_cases hq : pos (l.take k) = true
        · go_wp2
          go_round
          case rel => exact ⟨k + 1, by omega, by go_num, by rw [hp.out, hq]; rfl⟩
          case measure => simp [intOf]; omega
        · have hq' : pos (l.take k) = false := by simpa using hq
          clear hq
          go_wp2
          go_round
          case rel => exact ⟨k + 1, by omega, by go_num, by rw [hp.out, hq']; rfl⟩
          case measure => simp [intOf]; omega
      · obtain rfl : k = n := by omega
        have ht : l.take k = l := List.take_of_length_le (by omega)
        rw [ht]
        clear ht
        rcases pick_law l s with ⟨hq, he⟩ | ⟨hq, j, y, he, hy, hp⟩
        · have HP' := HP.out
          rw [he] at HP'
          have HP' := hid HP'
          clear he
          go_wp2_with fail
          refine HP'.out.mono ?_
          rintro e w1 ⟨rfl, hg1, hk1⟩
          have HK1 := hid hk1
          have HI := hid (intn_any w1 _ _ m hg1 hm)
          clear hk1 hg1
          generalize pickA l s = z at *
          by_cases hm1 : m < 1
          · have hr := hid (show roll m z = 0 by rw [roll, if_pos hm1])
            have HI' := HI.out
            rw [hr.out] at HI'
            have HI' := hid HI'
            go_wp2_with (first | (go_at_call 12; refine HI'.out.mono ?_; rintro e w2 ⟨rfl, _, hk2⟩) | (go_at_call 9; refine (awake_any _).mono ?_; rintro e w3 ⟨rfl, hk3⟩))
            go_ret
            exact ⟨rfl, (((hk0.wide (T := fun i => i = w.heap.size) (fun _ _ f => f.elim)).trans HK1.out (fun _ _ h => h) |>.trans hk2 (fun _ _ h => h)).then hk3).wide (fun i hi h => by omega)⟩
          · have hr := roll_in m z (by omega)
            obtain ⟨r1, r2⟩ := hr
            have hm1' : 1 ≤ m := by omega
            clear hm1
            have HI' := HI.out
            generalize roll m z = R at *
            have HI' := hid HI'
            go_wp2_with (first | (go_at_call 12; refine HI'.out.mono ?_; rintro e w2 ⟨rfl, _, hk2⟩) | (go_at_call 9; refine (awake_any _).mono ?_; rintro e w3 ⟨rfl, hk3⟩))
            go_ret
            exact ⟨rfl, (((hk0.wide (T := fun i => i = w.heap.size) (fun _ _ f => f.elim)).trans HK1.out (fun _ _ h => h) |>.trans hk2 (fun _ _ h => h)).then hk3).wide (fun i hi h => by omega)⟩
        · have HP' := HP.out
          rw [he] at HP'
          have HP' := hid HP'
          have hj : j < k := by have := (List.getElem?_eq_some_iff.1 hy).1; omega
          clear he
          go_wp2_with fail
          refine HP'.out.mono ?_
          rintro e w1 ⟨rfl, hg1, hk1⟩
          have HK1 := hid hk1
          have HI := hid (intn_any w1 _ _ m hg1 hm)
          obtain ⟨bb, off, rfl, hb, _, hr⟩ := (HA.out.keep hk1 (fun i _ h => h)).at_ (by omega)
          have hc : w1.cell? ⟨bb, off + j, none⟩ = some (.int .i64 y) := hr j _ (by simp [hy])
          clear hk1 hg1 hr hy
          generalize pickA l s = z at *
          by_cases hm1 : m < 1
          · have hr := hid (show roll m z = 0 by rw [roll, if_pos hm1])
            have HI' := HI.out
            rw [hr.out] at HI'
            have HI' := hid HI'
            go_wp2_with (first | (go_at_call 12; refine HI'.out.mono ?_; rintro e w2 ⟨rfl, _, hk2⟩) | (go_at_call 9; refine (awake_any _).mono ?_; rintro e w3 ⟨rfl, hk3⟩))
            go_ret
            exact ⟨rfl, (((hk0.wide (T := fun i => i = w.heap.size) (fun _ _ f => f.elim)).trans HK1.out (fun _ _ h => h) |>.trans hk2 (fun _ _ h => h)).then hk3).wide (fun i hi h => by omega)⟩
          · have hr := roll_in m z (by omega)
            obtain ⟨r1, r2⟩ := hr
            have hm1' : 1 ≤ m := by omega
            clear hm1
            have HI' := HI.out
            generalize roll m z = R at *
            have HI' := hid HI'
            go_wp2_with (first | (go_at_call 12; refine HI'.out.mono ?_; rintro e w2 ⟨rfl, _, hk2⟩) | (go_at_call 9; refine (awake_any _).mono ?_; rintro e w3 ⟨rfl, hk3⟩))
            go_ret
            exact ⟨rfl, (((hk0.wide (T := fun i => i = w.heap.size) (fun _ _ f => f.elim)).trans HK1.out (fun _ _ h => h) |>.trans hk2 (fun _ _ h => h)).then hk3).wide (fun i hi h => by omega)⟩
end Go.Proofs.Ytnejacmmbfeneaa

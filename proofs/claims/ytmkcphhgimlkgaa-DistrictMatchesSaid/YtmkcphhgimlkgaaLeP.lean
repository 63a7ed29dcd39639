import Derived.Test.YtmkcphhgimlkgaaLeX
namespace Go.Proofs.Ytmkcphhgimlkgaa
open Go.RowKit

theorem pw_lt : ∀ k, k < 8 → pw k ≤ 128 := by
  intro k hk
  obtain rfl | rfl | rfl | rfl | rfl | rfl | rfl | rfl : k = 0 ∨ k = 1 ∨ k = 2 ∨ k = 3 ∨ k = 4 ∨ k = 5 ∨ k = 6 ∨ k = 7 := by omega
  all_goals decide

theorem wrap_div (z : Int) (h0 : 0 ≤ z) (h1 : z ≤ 18446744073709551615) : IntKind.u64.wrap (z.tdiv 4294967296) = z / 4294967296 := by
  rw [Int.tdiv_eq_ediv_of_nonneg h0, IntKind.wrap_u64]; omega
set_option maxHeartbeats 2000000 in
theorem rstep_any (w : World) (s b : Int) (h0 : 0 ≤ s) (h1 : s ≤ 18446744073709551615) (b0 : 0 ≤ b) (b1 : b ≤ 255) : Calls Try.prog 88 #[.int .u64 s, .int .u8 b] w fun e w' => e = .returned (.int .u64 (addB s b)) ∧ Same w w' := by
  go_enter Try.func88, Try.ntmps88
  go_wp2
  go_loopw [6, 7] (fun x p wr => ∃ k : Nat, k ≤ 8 ∧ p = .int .u64 (pw k) ∧ x = .int .u64 (xl (s % 256) b k) ∧ Same w wr) (fun _ p _ => 256 - (RowKit.intOf p).toNat)
  case atStart => exact ⟨0, by omega, rfl, rfl, Keep.refl _ _⟩
  case round =>
    obtain ⟨k, hk, rfl, rfl, hK⟩ := hrel
    have hx := xl_in (s % 256) b k
    have hp := pw_in k
    obtain ⟨x0, x1⟩ := hx
    by_cases hkn : k < 8
    · have hp8 := pw_lt k hkn
      have hs1 := hid (show pw (k + 1) = pw k * 2 from rfl)
      have hs2 := hid (show xl (s % 256) b (k + 1) = xl (s % 256) b k + if s % 256 / pw k % 2 = b / pw k % 2 then 0 else pw k from rfl)
      generalize xl (s % 256) b k = x at *
      generalize pw k = p at *
      have hp0 : (p == 0) = false := by simp; omega
      have hA : 0 ≤ s % 256 / p := Int.ediv_nonneg (by omega) (by omega)
      have hA' : 0 ≤ b / p := Int.ediv_nonneg (by omega) (by omega)
      go_wp2
      go_quiet (fail)
      go_wp2
      · have hq : (s % 256 / p % 2 != b / p % 2) = true := by assumption
        have hq' : ¬ s % 256 / p % 2 = b / p % 2 := by simpa using hq
        go_roundw
        case rel => exact ⟨k + 1, by omega, by rw [hs1.out], by rw [hs2.out, if_neg hq'], hK.drewN _⟩
        case measure => simp [RowKit.intOf]; omega
      · have hq : (s % 256 / p % 2 != b / p % 2) = false := by assumption
        have hq' : s % 256 / p % 2 = b / p % 2 := by simpa using hq
        go_roundw
        case rel => exact ⟨k + 1, by omega, by rw [hs1.out], by rw [hs2.out, if_pos hq', Int.add_zero], hK.drewN _⟩
        case measure => simp [RowKit.intOf]; omega
    · obtain rfl : k = 8 := by omega
      have he := hid (step_xor s b h0 h1 b0 b1)
      have hp8 : pw 8 = 256 := by decide
      have hx9 : xl (s % 256) b 8 ≤ 255 := by omega
      rw [hp8] at hp ⊢
      clear hp8 x1
      generalize xl (s % 256) b 8 = x at *
      go_wp2
      go_ret
      refine ⟨?_, hK⟩
      have hz := u64_in ((s - s % 256 + x) * 1099511628211)
      rw [addB, ← he.out, ← wrap_div _ hz.1 hz.2]
      rfl

def mores (s : Int) (l : List Int) : Int := l.foldl addB s
set_option maxHeartbeats 1000000 in
theorem more_any (w : World) (s : Int) (h0 : 0 ≤ s) (h1 : s ≤ 18446744073709551615) (Av : Nat → Prop) (A : Option Addr) (n c : Nat) (l : List Int) (hA : Sl w Av 1 A n (l.map (Value.int .u8))) (hn : n ≤ 1000000) (hb : ∀ x ∈ l, 0 ≤ x ∧ x ≤ 255) :
    Calls Try.prog 81 #[.int .u64 s, .slice A n c] w fun e w' => e = .returned (.int .u64 (mores s l)) ∧ Same w w' := by
  have hl : l.length = n := by simpa using hA.len
  have HA := hid hA
  have Hb := hid hb
  clear hA hb
  go_enter Try.func81, Try.ntmps81
  go_wp2
  go_loopw [0, 5] (fun v i wr => ∃ k : Nat, k ≤ n ∧ i = .int .i64 k ∧ v = .int .u64 (mores s (l.take k)) ∧ 0 ≤ mores s (l.take k) ∧ mores s (l.take k) ≤ 18446744073709551615 ∧ Same w wr) (fun _ i _ => n - (RowKit.intOf i).toNat)
  case atStart => exact ⟨0, by omega, rfl, by simp [mores], by simpa [mores] using h0, by simpa [mores] using h1, Keep.refl _ _⟩
  case round =>
    obtain ⟨k, hk, rfl, rfl, m0, m1, hK⟩ := hrel
    by_cases hkn : k < n
    · obtain ⟨x, hx⟩ := get_some (l := l) (k := k) (by omega)
      have hbx := Hb.out x (List.mem_of_getElem? hx)
      obtain ⟨bb, off, rfl, hb, _, hr⟩ := HA.out.at_ (by omega)
      have hc : wr.cell? ⟨bb, off + k, none⟩ = some (.int .u8 x) := (hK.cell (p := ⟨bb, off + k, none⟩) hb (fun f => f)).trans (hr k _ (by simp [hx]))
      have hs := hid (show mores s (l.take (k + 1)) = addB (mores s (l.take k)) x by rw [take_snoc hx]; simp [mores])
      clear hx hr
      generalize mores s (l.take k) = S at *
      have hd := hid (rstep_any wr S x m0 m1 hbx.1 hbx.2)
      have hu := addB_u S x
      go_wp2_with fail
      refine hd.out.mono ?_
      rintro e w' ⟨rfl, hk'⟩
      go_wp2
      go_roundw
      case rel => exact ⟨k + 1, by omega, by go_num, by rw [hs.out], by rw [hs.out]; exact hu.1, by rw [hs.out]; exact hu.2, hK.then hk'⟩
      case measure => simp [RowKit.intOf]; omega
    · obtain rfl : k = n := by omega
      have ht : l.take k = l := List.take_of_length_le (by omega)
      rw [ht]
      clear ht
      go_wp2
      go_ret
      exact ⟨rfl, hK⟩
theorem of_any (w : World) (Av : Nat → Prop) (A : Option Addr) (n c : Nat) (l : List Int) (hA : Sl w Av 1 A n (l.map (Value.int .u8))) (hn : n ≤ 1000000) (hb : ∀ x ∈ l, 0 ≤ x ∧ x ≤ 255) :
    Calls Try.prog 60 #[.slice A n c] w fun e w' => e = .returned (.int .u64 (mores 14695981039346656037 l)) ∧ Same w w' := by
  have hd := hid (more_any w 14695981039346656037 (by omega) (by omega) Av A n c l hA hn hb)
  clear hA hb
  go_enter Try.func60, Try.ntmps60
  go_wp2_with (go_at_call 81; refine hd.out.mono ?_; rintro e w' ⟨rfl, hk⟩)
  go_ret
  exact ⟨rfl, hk⟩
end Go.Proofs.Ytmkcphhgimlkgaa

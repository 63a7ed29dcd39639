import Derived.Test.YtnejacmmbfeneaaDoorGen2
import Derived.OpenShut
namespace Go.Proofs.YtnejacmmbfeneaaDoor
open Go.RowKit

/-! ## The generator: one draw -/
def nxt (s : Int) : Int := IntKind.u64.wrap (s + 11400714819323198485)
def mix1 (z : Int) : Int := IntKind.u64.wrap (bits BinOp.xor IntKind.u64 z (z / 1073741824) * 13787848793156543929)
def mix2 (z : Int) : Int := IntKind.u64.wrap (bits BinOp.xor IntKind.u64 z (z / 134217728) * 10723151780598845931)
def mix3 (z : Int) : Int := bits BinOp.xor IntKind.u64 z (z / 2147483648)
def mix (s : Int) : Int := mix3 (mix2 (mix1 (nxt s)))
theorem nxt_u (s : Int) : 0 ≤ nxt s ∧ nxt s ≤ 18446744073709551615 := bounds_u64 (wf_wrap _ _)
theorem mix_u (s : Int) : 0 ≤ mix s ∧ mix s ≤ 18446744073709551615 := by unfold mix mix3; exact bounds_u64 (wf_bits _ _ _ _)

/-- The generator behind block b (of type t) is at s. -/
structure Gn (w : World) (t : TypeId) (b : Nat) (s : Int) : Prop where
  blk : Blk w b t #[.int .u64 s]
  lo : 0 ≤ s
  hi : s ≤ 18446744073709551615

/-- what a call of a generator leaves -/
def GPost (t : TypeId) (w : World) (b : Nat) (v : Value) (s : Int) (e : Ending) (w' : World) : Prop := e = .returned v ∧ Gn w' t b s ∧ Keep (· = b) w w'

set_option maxHeartbeats 1000000 in
theorem draw_any (w : World) (b : Nat) (s : Int) (hG : Gn w 84 b s) : Calls Tryd.prog 34 #[.pointer (some ⟨b, 0, none⟩)] w (GPost 84 w b (.int .u64 (mix s)) (nxt s)) := by
  obtain ⟨hB, h0, h1⟩ := hG
  have c0 : w.cell? ⟨b, 0, none⟩ = some (.int .u64 s) := hB.at_ 0
  have f0 := hB.free 0
  have HB := hid hB
  clear hB
  go_enter Tryd.func34, Tryd.ntmps34
  go_wp2
  go_ret
  exact ⟨rfl, ⟨HB.out.put 0 (.int .u64 (nxt s)), (nxt_u s).1, (nxt_u s).2⟩, (Keep.refl _ _).put _ _⟩
set_option maxHeartbeats 1000000 in
theorem next_any (w : World) (b : Nat) (s : Int) (hG : Gn w 60 b s) : Calls Tryd.prog 36 #[.pointer (some ⟨b, 0, none⟩)] w (GPost 60 w b (.int .u64 (mix s)) (nxt s)) := by
  obtain ⟨hB, h0, h1⟩ := hG
  have c0 : w.cell? ⟨b, 0, none⟩ = some (.int .u64 s) := hB.at_ 0
  have f0 := hB.free 0
  have HB := hid hB
  clear hB
  go_enter Tryd.func36, Tryd.ntmps36
  go_wp2
  go_ret
  exact ⟨rfl, ⟨HB.out.put 0 (.int .u64 (nxt s)), (nxt_u s).1, (nxt_u s).2⟩, (Keep.refl _ _).put _ _⟩

/-! ## Intn, Chance -/
def roll (n s : Int) : Int := if n < 1 then 0 else mix s % n
def aft (n s : Int) : Int := if n < 1 then s else nxt s
theorem roll_in (n s : Int) (h : 1 ≤ n) : 0 ≤ roll n s ∧ roll n s < n := by
  rw [roll, if_neg (by omega)]
  exact ⟨Int.emod_nonneg _ (by omega), Int.emod_lt_of_pos _ (by omega)⟩

set_option maxHeartbeats 1000000 in
theorem intn_any (w : World) (b : Nat) (s n : Int) (hG : Gn w 84 b s) (hn : n ≤ 9223372036854775807) : Calls Tryd.prog 16 #[.pointer (some ⟨b, 0, none⟩), .int .i64 n] w (GPost 84 w b (.int .i64 (roll n s)) (aft n s)) := by
  by_cases h : n < 1
  · rw [roll, aft, if_pos h, if_pos h]
    have hg := hid hG
    clear hG
    go_enter Tryd.func16, Tryd.ntmps16
    go_wp2
    go_ret
    exact ⟨rfl, hg.out, Keep.refl _ _⟩
  · rw [roll, aft, if_neg h, if_neg h]
    have hd := hid (draw_any w b s hG)
    have hm := mix_u s
    have h1 : 1 ≤ n := by omega
    have hr1 : 0 ≤ mix s % n := Int.emod_nonneg _ (by omega)
    have hr2 : mix s % n < n := Int.emod_lt_of_pos _ (by omega)
    obtain ⟨m1, m2⟩ := hm
    clear hG
    generalize mix s = z at *
    go_enter Tryd.func16, Tryd.ntmps16
    go_wp2_with (go_at_call 34; refine (Hid.out hd).mono ?_; rintro e w' ⟨rfl, hg, hk⟩)
    go_ret
    exact ⟨rfl, hg, hk⟩
set_option maxHeartbeats 1000000 in
theorem roll_any (w : World) (b : Nat) (s n : Int) (hG : Gn w 60 b s) (hn : n ≤ 9223372036854775807) : Calls Tryd.prog 19 #[.pointer (some ⟨b, 0, none⟩), .int .i64 n] w (GPost 60 w b (.int .i64 (roll n s)) (aft n s)) := by
  by_cases h : n < 1
  · rw [roll, aft, if_pos h, if_pos h]
    have hg := hid hG
    clear hG
    go_enter Tryd.func19, Tryd.ntmps19
    go_wp2
    go_ret
    exact ⟨rfl, hg.out, Keep.refl _ _⟩
  · rw [roll, aft, if_neg h, if_neg h]
    have hd := hid (next_any w b s hG)
    have hm := mix_u s
    have h1 : 1 ≤ n := by omega
    have hr1 : 0 ≤ mix s % n := Int.emod_nonneg _ (by omega)
    have hr2 : mix s % n < n := Int.emod_lt_of_pos _ (by omega)
    obtain ⟨m1, m2⟩ := hm
    clear hG
    generalize mix s = z at *
    go_enter Tryd.func19, Tryd.ntmps19
    go_wp2_with (go_at_call 36; refine (Hid.out hd).mono ?_; rintro e w' ⟨rfl, hg, hk⟩)
    go_ret
    exact ⟨rfl, hg, hk⟩

def cw (x : Int) : Int := if x < 0 then 0 else if 1000 < x then 1000 else x
theorem cw_in (x : Int) : 0 ≤ cw x ∧ cw x ≤ 1000 := by unfold cw; split <;> (try split) <;> omega
theorem clamp_any (x : Int) (w : World) : Calls Tryd.prog 35 #[.int .i64 x] w fun e w' => e = .returned (.int .i64 (cw x)) ∧ w = w' := by
  rcases (show x < 0 ∨ (0 ≤ x ∧ 1000 < x) ∨ (0 ≤ x ∧ x ≤ 1000) from by omega) with h | ⟨h, h'⟩ | ⟨h, h'⟩
  · rw [show cw x = 0 by simp [cw, h]]
    go_enter Tryd.func35, Tryd.ntmps35
    go_wp2
    all_goals (go_ret; exact ⟨rfl, rfl⟩)
  · rw [show cw x = 1000 by simp [cw, h']; omega]
    go_enter Tryd.func35, Tryd.ntmps35
    go_wp2
    all_goals (go_ret; exact ⟨ret_of (int_of (by omega)), rfl⟩)
  · rw [show cw x = x by simp [cw]; omega]
    go_enter Tryd.func35, Tryd.ntmps35
    go_wp2
    all_goals (go_ret; exact ⟨ret_of (int_of (by omega)), rfl⟩)
theorem weight_any (x : Int) (w : World) : Calls Tryd.prog 37 #[.int .i64 x] w fun e w' => e = .returned (.int .i64 (cw x)) ∧ w = w' := by
  rcases (show x < 0 ∨ (0 ≤ x ∧ 1000 < x) ∨ (0 ≤ x ∧ x ≤ 1000) from by omega) with h | ⟨h, h'⟩ | ⟨h, h'⟩
  · rw [show cw x = 0 by simp [cw, h]]
    go_enter Tryd.func37, Tryd.ntmps37
    go_wp2
    all_goals (go_ret; exact ⟨rfl, rfl⟩)
  · rw [show cw x = 1000 by simp [cw, h']; omega]
    go_enter Tryd.func37, Tryd.ntmps37
    go_wp2
    all_goals (go_ret; exact ⟨ret_of (int_of (by omega)), rfl⟩)
  · rw [show cw x = x by simp [cw]; omega]
    go_enter Tryd.func37, Tryd.ntmps37
    go_wp2
    all_goals (go_ret; exact ⟨ret_of (int_of (by omega)), rfl⟩)

def wsum (l : List Int) : Int := (l.map cw).sum
/-- the index at which the draw x falls -/
def idx : List Int → Int → Int → Int
  | [], _, _ => -1
  | w :: r, x, i => if x < cw w then i else idx r (x - cw w) (i + 1)
def pick (l : List Int) (s : Int) : Int := if wsum l = 0 then -1 else idx l (roll (wsum l) s) 0
def pickA (l : List Int) (s : Int) : Int := if wsum l = 0 then s else aft (wsum l) s
theorem wsum_snoc {l : List Int} {k : Nat} {a : Int} (h : l[k]? = some a) : wsum (l.take (k + 1)) = wsum (l.take k) + cw a := by
  rw [take_snoc h]; simp [wsum]
theorem wsum_in (l : List Int) : 0 ≤ wsum l ∧ wsum l ≤ 1000 * l.length := by
  induction l with
  | nil => simp [wsum]
  | cons a l ih =>
    have h := cw_in a
    have e : wsum (a :: l) = cw a + wsum l := by simp [wsum]
    rw [e, List.length_cons]
    omega
theorem drop_cons {α : Type} {l : List α} {k : Nat} {a : α} (h : l[k]? = some a) : l.drop k = a :: l.drop (k + 1) := by
  obtain ⟨hk, rfl⟩ := List.getElem?_eq_some_iff.1 h
  exact List.drop_eq_getElem_cons hk

set_option maxHeartbeats 1000000 in
theorem pick_any (w : World) (b : Nat) (s : Int) (A : Option Addr) (n c : Nat) (l : List Int) (hG : Gn w 84 b s) (hn : n ≤ 30) (Av : Nat → Prop) (hAv : Av b) (hA : Sl w Av 1 A n (l.map (Value.int .i64))) :
    Calls Tryd.prog 17 #[.pointer (some ⟨b, 0, none⟩), .slice A n c] w (GPost 84 w b (.int .i64 (pick l s)) (pickA l s)) := by
  have hl : l.length = n := by simpa using hA.len
  have HA := hid hA
  have HG := hid hG
  clear hA hG
  go_enter Tryd.func17, Tryd.ntmps17
  go_wp2
  go_loop [5, 13] (fun v i => ∃ k : Nat, k ≤ n ∧ i = .int .i64 k ∧ v = .int .i64 (wsum (l.take k))) (fun _ i => n - (intOf i).toNat)
  case atStart => exact ⟨0, by omega, rfl, by simp [wsum]⟩
  case round =>
    obtain ⟨k, hk, rfl, rfl⟩ := hrel
    have hs := wsum_in (l.take k)
    have hlt := List.length_take_le k l
    obtain ⟨hs1, hs2⟩ := hs
    by_cases hkn : k < n
    · obtain ⟨x, hx⟩ := get_some (l := l) (k := k) (by omega)
      obtain ⟨bb, off, rfl, hb, _, hr⟩ := HA.out.at_ (by omega)
      have hc : w.cell? ⟨bb, off + k, none⟩ = some (.int .i64 x) := hr k _ (by simp [hx])
      have hw := hid (wsum_snoc hx)
      have hcw := cw_in x
      obtain ⟨hc1, hc2⟩ := hcw
      clear hx hr
      generalize wsum (l.take k) = S at *
      go_wp2_with (go_at_call 35; refine (clamp_any _ _).mono ?_; rintro e w' ⟨rfl, rfl⟩)
      go_round
      case rel => exact ⟨k + 1, by omega, by go_num, by rw [hw.out]⟩
      case measure => simp [intOf]; omega
    · obtain rfl : k = n := by omega
      have ht : l.take k = l := List.take_of_length_le (by omega)
      rw [ht] at hs1 hs2 ⊢
      have hs3 : wsum l ≤ 30000 := by omega
      have hll := hid hl
      clear ht hl hs2
      by_cases h0 : wsum l = 0
      · have e1 := hid (show pick l s = -1 by simp [pick, h0])
        have e2 := hid (show pickA l s = s by simp [pickA, h0])
        generalize wsum l = S at *
        subst h0
        go_wp2
        go_ret
        exact ⟨by rw [e1.out]; rfl, by rw [e2.out]; exact HG.out, Keep.refl _ _⟩
      · have e1 := hid (show pick l s = idx l (roll (wsum l) s) 0 by simp [pick, h0])
        have e2 := hid (show pickA l s = aft (wsum l) s by simp [pickA, h0])
        have hri := roll_in (wsum l) s (by omega)
        obtain ⟨r1, r2⟩ := hri
        have hd := hid (intn_any w b s (wsum l) HG.out (by have := hll.out; omega))
        have h0' : (wsum l == 0) = false := by simpa using h0
        clear h0
        generalize wsum l = S at *
        generalize roll S s = R at *
        generalize aft S s = s' at *
        go_wp2_with (go_at_call 16; refine (Hid.out hd).mono ?_; rintro e w1 ⟨rfl, hg1, hk1⟩)
        have HA1 := hid (HA.out.keep hk1 (fun i _ h => by rw [h]; exact hAv))
        have HG1 := hid hg1
        have HK1 := hid hk1
        clear hg1 hk1
        go_loop [8, 29] (fun v i => ∃ (j : Nat) (x : Int), j ≤ k ∧ i = .int .i64 j ∧ v = .int .i64 x ∧ 0 ≤ x ∧ x ≤ R ∧ idx l R 0 = idx (l.drop j) x j) (fun _ i => k - (intOf i).toNat)
        case atStart => exact ⟨0, R, by omega, rfl, rfl, r1, by omega, by simp⟩
        case round =>
          obtain ⟨j, x, hj, rfl, rfl, hx0, hxR, hi⟩ := hrel
          by_cases hjn : j < k
          · obtain ⟨y, hy⟩ := get_some (l := l) (k := j) (by have := hll.out; omega)
            obtain ⟨bb, off, rfl, hb, _, hr⟩ := HA1.out.at_ (by omega)
            have hc : w1.cell? ⟨bb, off + j, none⟩ = some (.int .i64 y) := hr j _ (by simp [hy])
            rw [drop_cons hy] at hi
            have hcw := cw_in y
            obtain ⟨hc1, hc2⟩ := hcw
            clear hr hy
            by_cases hlt : x < cw y
            · have Hi := hid (show idx l R 0 = j by rw [hi, idx, if_pos hlt])
              clear hi
              have hlt' : x - cw y < 0 := by omega
              go_wp2_with (go_at_call 35; refine (clamp_any _ _).mono ?_; rintro e w' ⟨rfl, rfl⟩)
              go_ret
              exact ⟨by rw [e1.out, Hi.out]; rfl, by rw [e2.out]; exact HG1.out, HK1.out⟩
            · have Hi := hid (show idx l R 0 = idx (l.drop (j + 1)) (x - cw y) (j + 1) by rw [hi, idx, if_neg hlt])
              clear hi
              have hlt' : 0 ≤ x - cw y := by omega
              go_wp2_with (go_at_call 35; refine (clamp_any _ _).mono ?_; rintro e w' ⟨rfl, rfl⟩)
              go_round
              case rel => exact ⟨j + 1, x - cw y, by omega, by go_num, rfl, hlt', by omega, by rw [Hi.out]; rfl⟩
              case measure => simp [intOf]; omega
          · obtain rfl : j = k := by omega
            have ht : l.drop j = [] := List.drop_eq_nil_of_le (by have := hll.out; omega)
            rw [ht] at hi
            have Hi := hid hi
            clear hi ht
            go_wp2
            go_ret
            exact ⟨by rw [e1.out, Hi.out]; rfl, by rw [e2.out]; exact HG1.out, HK1.out⟩
end Go.Proofs.YtnejacmmbfeneaaDoor

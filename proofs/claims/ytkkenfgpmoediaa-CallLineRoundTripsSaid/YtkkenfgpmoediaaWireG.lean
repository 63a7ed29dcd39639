import Derived.Test.YtkkenfgpmoediaaWireF
namespace Go.Proofs.Ytkkenfgpmoediaa
open Go.RowKit

theorem orT (k : Nat) (P x U : Int) (hk : k ≤ 9) (hP : P = ((128 ^ k : Nat) : Int)) (hx0 : 0 ≤ x) (hx : x < 256) (h9 : k = 9 → x ≤ 1) (hU : 0 ≤ U) (hUk : U.toNat < 128 ^ k) :
    bits .or .u64 U (IntKind.u64.wrap (IntKind.u64.wrap (bits .and .u8 x 127) * P)) = ((U.toNat + x.toNat % 128 * 128 ^ k : Nat) : Int) ∧ U.toNat + x.toNat % 128 * 128 ^ k < 18446744073709551616 := by
  subst hP
  have e1 : bits .and .u8 x 127 = x % 128 := by
    have h := bits_mask .u8 8 (by decide) wraps_u8 7 (by decide) x hx0 (by omega)
    simpa using h
  have e2 : IntKind.u64.wrap (x % 128) = x % 128 := by rw [IntKind.wrap_u64]; omega
  obtain ⟨y, rfl⟩ := Int.eq_ofNat_of_zero_le hx0
  obtain ⟨V, rfl⟩ := Int.eq_ofNat_of_zero_le hU
  have hp9 : (128 : Nat) ^ 9 = 9223372036854775808 := by decide
  have hp8 : (128 : Nat) ^ 8 = 72057594037927936 := by decide
  have hpk : (128 : Nat) ^ k = 2 ^ (7 * k) := by rw [show (128 : Nat) = 2 ^ 7 by decide, ← Nat.pow_mul]
  simp only [Int.toNat_natCast] at hUk ⊢
  have hle : 128 ^ k ≤ 9223372036854775808 := by rw [← hp9]; exact Nat.pow_le_pow_right (by decide) hk
  have hb : y % 128 * 128 ^ k + 128 ^ k ≤ 18446744073709551616 := by
    by_cases h : k = 9
    · have h1 : y % 128 ≤ 1 := by have := h9 h; clear hp9 hp8 hpk hle hUk; omega
      have h3 := Nat.mul_le_mul_right (128 ^ k) h1
      clear hp9 hp8 hpk
      omega
    · have hle8 : 128 ^ k ≤ 72057594037927936 := by rw [← hp8]; exact Nat.pow_le_pow_right (by decide) (by clear hp9 hp8 hpk hle hUk; omega)
      have h1 : y % 128 ≤ 127 := by clear hp9 hp8 hpk hle hUk hle8; omega
      have := Nat.mul_le_mul h1 hle8
      exact Nat.le_trans (Nat.add_le_add this hle8) (by decide)
  clear hp9 hp8
  refine ⟨?_, by omega⟩
  rw [e1, e2, show ((y : Int) % 128 * ((128 ^ k : Nat) : Int)) = ((y % 128 * 128 ^ k : Nat) : Int) by simp,
    show IntKind.u64.wrap ((y % 128 * 128 ^ k : Nat) : Int) = ((y % 128 * 128 ^ k : Nat) : Int) by rw [IntKind.wrap_u64]; omega]
  have h := (bits_nat .u64 64 (by decide) wraps_u64 V (y % 128 * 128 ^ k) (by omega) (by omega)).2
  rw [h]
  congr 1
  have := Nat.shiftLeft_add_eq_or_of_lt (i := 7 * k) (b := V) (by rw [← hpk]; exact hUk) (y % 128)
  rw [Nat.shiftLeft_eq, ← hpk] at this
  rw [Nat.or_comm, ← this, Nat.add_comm]
theorem orT0 (x U : Int) (hx0 : 0 ≤ x) (hx : x < 256) (hU : 0 ≤ U) (hUk : U.toNat < 128 ^ 0) :
    bits .or .u64 U (IntKind.u64.wrap (IntKind.u64.wrap (bits .and .u8 x 127))) = ((U.toNat + x.toNat % 128 * 128 ^ 0 : Nat) : Int) ∧ U.toNat + x.toNat % 128 * 128 ^ 0 < 18446744073709551616 := by
  have := orT 0 1 x U (by omega) rfl hx0 hx (by omega) hU hUk
  rwa [Int.mul_one] at this
theorem finT (V : Nat) (h : V < 18446744073709551616) : bits .xor .i64 (wrap64 ((V : Int) / 2)) (wrap64 (-wrap64 (bits .and .u64 (V : Int) 1))) = unzig V := by
  have e1 : bits .and .u64 (V : Int) 1 = (V : Int) % 2 := Lib.u64_and1 _ (by omega) (by omega)
  rw [e1]
  have hq : (V : Int) / 2 = ((V / 2 : Nat) : Int) := by simp
  have hw : wrap64 ((V : Int) / 2) = ((V / 2 : Nat) : Int) := by rw [hq]; exact IntWalk.wrap64_in _ (by omega)
  rw [hw]
  have hv2 : V / 2 < 9223372036854775808 := by omega
  unfold unzig
  by_cases h2 : V % 2 = 0
  · rw [if_pos h2, show (V : Int) % 2 = 0 by omega]
    rw [IntWalk.wrap64_in 0 (by omega), IntWalk.wrap64_in (-0) (by omega), Int.neg_zero]
    have hb : bits .xor .i64 ((V / 2 : Nat) : Int) 0 = IntKind.i64.wrap ((V / 2 : Nat) : Int) := by
      show IntKind.i64.wrap ((BitVec.ofInt 64 ((V / 2 : Nat) : Int) ^^^ BitVec.ofInt 64 0).toNat : Int) = _
      congr 2
      rw [BitVec.ofInt_natCast, BitVec.toNat_xor, BitVec.toNat_ofNat, Nat.mod_eq_of_lt (by omega)]
      simp
    rw [hb, IntKind.wrap_i64]; omega
  · rw [if_neg h2, show (V : Int) % 2 = 1 by omega]
    rw [IntWalk.wrap64_in 1 (by omega), IntWalk.wrap64_in (-1) (by omega)]
    rw [← Lib.i64_not (V / 2) hv2]
    show IntKind.i64.wrap ((BitVec.ofInt 64 ((V / 2 : Nat) : Int) ^^^ BitVec.ofInt 64 (-1)).toNat : Int) = IntKind.i64.wrap ((BitVec.ofInt 64 (-1) ^^^ BitVec.ofInt 64 ((V / 2 : Nat) : Int)).toNat : Int)
    rw [BitVec.xor_comm]
theorem vlt {U y k : Nat} (h : U < 128 ^ k) : U + y % 128 * 128 ^ k < 128 ^ (k + 1) := by
  have h1 : y % 128 + 1 ≤ 128 := by omega
  have h2 := Nat.mul_le_mul_right (128 ^ k) h1
  rw [Nat.add_mul, Nat.one_mul] at h2
  rw [Nat.pow_succ, Nat.mul_comm (128 ^ k) 128]
  omega

section
variable (w : World) (rb : Nat) (Av : Nat → Prop)
/-- the loop of Int: k bytes are read -/
def RLoop (w : World) (rb : Nat) (Av : Nat → Prop) (l0 : List UInt8) (u i : Value) (wr : World) : Prop :=
  ∃ (k : Nat) (U : Int) (l : List UInt8) (A : Option Addr) (n c : Nat), k ≤ 9 ∧ i = .int .i64 k ∧ u = .int .u64 U ∧ 0 ≤ U ∧ U.toNat < 128 ^ k ∧ rdU k U.toNat l = rdU 0 0 l0 ∧ Rd wr rb Av A n c ⟨l, 0⟩ ∧ Keep (· = rb) w wr
set_option maxRecDepth 100000 in
set_option maxHeartbeats 2000000 in
theorem rInt_ok (A : Option Addr) (n c : Nat) (l0 : List UInt8) (h : Rd w rb Av A n c ⟨l0, 0⟩) :
    Calls Try.prog 40 #[.pointer (some ⟨rb, 0, none⟩)] w (RPost w rb Av (rdInt ⟨l0, 0⟩).2 (.int .i64 (rdInt ⟨l0, 0⟩).1)) := by
  have H := hid h
  have hgood : ∀ (u : Nat) (l : List UInt8) (wr : World) A n c, rdU 0 0 l0 = (u, l, 0) → Rd wr rb Av A n c ⟨l, 0⟩ → Keep (· = rb) w wr → RPost w rb Av (rdInt ⟨l0, 0⟩).2 (.int .i64 (rdInt ⟨l0, 0⟩).1) (.returned (.int .i64 (unzig u))) wr := by
    intro u l wr A n c hu hR hK
    unfold rdInt
    simp only [not_true_eq_false, if_false, hu, if_true]
    exact ⟨A, n, c, rfl, hR, hK⟩
  have hbad : ∀ (e : Int) (u : Nat) (r : List UInt8) (wr wr' : World), rdU 0 0 l0 = (u, r, e) → ¬ e = 0 → Keep (· = rb) w wr → RPost wr rb Av ⟨[], e⟩ (.tuple #[]) (.returned (.tuple #[])) wr' → RPost w rb Av (rdInt ⟨l0, 0⟩).2 (.int .i64 (rdInt ⟨l0, 0⟩).1) (.returned (.int .i64 0)) wr' := by
    intro e u r wr wr' hu he hK ⟨A, n, c, _, hR, hK2⟩
    unfold rdInt
    simp only [not_true_eq_false, if_false, hu, he]
    exact ⟨A, n, c, rfl, hR, hK.trans hK2 (fun _ _ h => h)⟩
  have HG := hid hgood
  have HB := hid hbad
  clear h hgood hbad
  go_enter Try.func40, Try.ntmps40
  go_wp2
  go_loopw [3, 7] (fun u i wr => RLoop w rb Av l0 u i wr) (fun _ i _ => 10 - (RowKit.intOf i).toNat)
  case atStart => exact ⟨0, 0, l0, A, n, c, by omega, rfl, rfl, by omega, by simp, rfl, H.out, Keep.refl _ _⟩
  case round =>
    obtain ⟨k, U, l, A1, n1, c1, hk, rfl, rfl, hU, hUk, hrd, hR, hK⟩ := hrel
    have HR := hid hR
    have HK := hid hK
    have HU := hid hUk
    have HRD := hid hrd
    clear hR hK hUk hrd
    cases l with
    | nil =>
      have hq := hid (HB.out 11 0 [] wr · (by rw [← HRD.out]; rfl) (by omega) HK.out)
      go_wp2_with fail
      refine (next_end wr rb Av A1 n1 c1 HR.out).mono ?_
      rintro e w2 ⟨A2, n2, c2, rfl, h1, h2⟩
      go_wp2
      go_ret
      exact hq.out _ ⟨A2, n2, c2, rfl, h1, h2⟩
    | cons x l =>
      have hx := x.toNat_lt
      by_cases hbad : (k = 9 ∧ ¬ x.toNat = 1) ∨ (0 < k ∧ x.toNat = 0)
      · have hq := hid (HB.out 2 0 [] · · (by rw [← HRD.out, rdU, if_pos hbad]) (by omega))
        go_wp2_with fail
        refine (next_ok wr rb Av A1 n1 c1 x l HR.out).mono ?_
        rintro e w2 ⟨A2, n2, c2, rfl, h1, h2⟩
        have H1 := hid h1
        have H2 := hid h2
        clear h1 h2
        rcases hbad with ⟨rfl, hb⟩ | ⟨hb0, hb⟩
        · have hb1 : ((x.toNat : Int) != 1) = true := by simp; omega
          go_wp2_with fail
          refine (fail_any w2 rb Av A2 n2 c2 _ H1.out 2).mono ?_
          rintro e w3 ⟨A3, n3, c3, rfl, h1, h2⟩
          go_wp2
          go_ret
          exact hq.out _ _ (HK.out.trans H2.out (fun _ _ h => h)) ⟨A3, n3, c3, rfl, h1, h2⟩
        · rw [hb]
          have hb1 : ((((0 : Nat)) : Int) != 1) = true := by decide
          by_cases hk9 : k = 9
          · subst hk9
            go_wp2_with fail
            refine (fail_any w2 rb Av A2 n2 c2 _ H1.out 2).mono ?_
            rintro e w3 ⟨A3, n3, c3, rfl, h1, h2⟩
            go_wp2
            go_ret
            exact hq.out _ _ (HK.out.trans H2.out (fun _ _ h => h)) ⟨A3, n3, c3, rfl, h1, h2⟩
          · have hk9' : ((k : Int) == 9) = false := by simp; omega
            go_wp2_with fail
            refine (fail_any w2 rb Av A2 n2 c2 _ H1.out 2).mono ?_
            rintro e w3 ⟨A3, n3, c3, rfl, h1, h2⟩
            go_wp2
            go_ret
            exact hq.out _ _ (HK.out.trans H2.out (fun _ _ h => h)) ⟨A3, n3, c3, rfl, h1, h2⟩
      · go_wp2_with fail
        refine (next_ok wr rb Av A1 n1 c1 x l HR.out).mono ?_
        rintro e w2 ⟨A2, n2, c2, rfl, h1, h2⟩
        have H1 := hid h1
        have H2 := hid h2
        clear h1 h2
        have hrdd := HRD.out
        rw [rdU, if_neg hbad] at hrdd
        have HRDD := hid hrdd
        have HB9 := hid hbad
        clear hrdd hbad
        have hks : k = 0 ∨ k = 1 ∨ k = 2 ∨ k = 3 ∨ k = 4 ∨ k = 5 ∨ k = 6 ∨ k = 7 ∨ k = 8 ∨ k = 9 := by omega
        rcases hks with rfl | rfl | rfl | rfl | rfl | rfl | rfl | rfl | rfl | rfl
        · have hor := hid (orT0 (x.toNat : Int) U (by omega) (by omega) hU HU.out)
          by_cases hs : x.toNat < 128
          · have hr2 := HRDD.out
            rw [if_pos hs] at hr2
            have HR2 := hid hr2.symm
            clear hr2
            go_wp2
            go_ret
            have hv := hor.out
            rw [Int.toNat_natCast, Nat.mod_eq_of_lt hs] at hv
            rw [hv.1, finT _ hv.2]
            exact HG.out _ _ _ _ _ _ HR2.out H1.out (HK.out.trans H2.out (fun _ _ h => h))
          · have hr2 := HRDD.out
            rw [if_neg hs] at hr2
            have HR2 := hid hr2
            clear hr2
            go_wp2
            go_roundw
            case rel =>
              have hv := hor.out
              rw [Int.toNat_natCast] at hv
              rw [hv.1]
              exact ⟨1, _, l, A2, n2, c2, by omega, rfl, rfl, by omega, by rw [Int.toNat_natCast]; exact vlt (k := 0) HU.out, by rw [Int.toNat_natCast]; exact HR2.out, H1.out, HK.out.trans H2.out (fun _ _ h => h)⟩
            case measure => simp [RowKit.intOf]
        · have hor := hid (orT 1 128 (x.toNat : Int) U (by omega) (by decide) (by omega) (by omega) (by have := HB9.out; omega) hU HU.out)
          have hx0 : ((x.toNat : Int) == 0) = false := by have := HB9.out; simp; omega
          by_cases hs : x.toNat < 128
          · have hr2 := HRDD.out
            rw [if_pos hs] at hr2
            have HR2 := hid hr2.symm
            clear hr2
            go_wp2
            go_ret
            have hv := hor.out
            rw [Int.toNat_natCast, Nat.mod_eq_of_lt hs] at hv
            rw [hv.1, finT _ hv.2]
            exact HG.out _ _ _ _ _ _ HR2.out H1.out (HK.out.trans H2.out (fun _ _ h => h))
          · have hr2 := HRDD.out
            rw [if_neg hs] at hr2
            have HR2 := hid hr2
            clear hr2
            go_wp2
            go_roundw
            case rel =>
              have hv := hor.out
              rw [Int.toNat_natCast] at hv
              rw [hv.1]
              exact ⟨2, _, l, A2, n2, c2, by omega, rfl, rfl, by omega, by rw [Int.toNat_natCast]; exact vlt (k := 1) HU.out, by rw [Int.toNat_natCast]; exact HR2.out, H1.out, HK.out.trans H2.out (fun _ _ h => h)⟩
            case measure => simp [RowKit.intOf]
        · have hor := hid (orT 2 16384 (x.toNat : Int) U (by omega) (by decide) (by omega) (by omega) (by have := HB9.out; omega) hU HU.out)
          have hx0 : ((x.toNat : Int) == 0) = false := by have := HB9.out; simp; omega
          by_cases hs : x.toNat < 128
          · have hr2 := HRDD.out
            rw [if_pos hs] at hr2
            have HR2 := hid hr2.symm
            clear hr2
            go_wp2
            go_ret
            have hv := hor.out
            rw [Int.toNat_natCast, Nat.mod_eq_of_lt hs] at hv
            rw [hv.1, finT _ hv.2]
            exact HG.out _ _ _ _ _ _ HR2.out H1.out (HK.out.trans H2.out (fun _ _ h => h))
          · have hr2 := HRDD.out
            rw [if_neg hs] at hr2
            have HR2 := hid hr2
            clear hr2
            go_wp2
            go_roundw
            case rel =>
              have hv := hor.out
              rw [Int.toNat_natCast] at hv
              rw [hv.1]
              exact ⟨3, _, l, A2, n2, c2, by omega, rfl, rfl, by omega, by rw [Int.toNat_natCast]; exact vlt (k := 2) HU.out, by rw [Int.toNat_natCast]; exact HR2.out, H1.out, HK.out.trans H2.out (fun _ _ h => h)⟩
            case measure => simp [RowKit.intOf]
        · have hor := hid (orT 3 2097152 (x.toNat : Int) U (by omega) (by decide) (by omega) (by omega) (by have := HB9.out; omega) hU HU.out)
          have hx0 : ((x.toNat : Int) == 0) = false := by have := HB9.out; simp; omega
          by_cases hs : x.toNat < 128
          · have hr2 := HRDD.out
            rw [if_pos hs] at hr2
            have HR2 := hid hr2.symm
            clear hr2
            go_wp2
            go_ret
            have hv := hor.out
            rw [Int.toNat_natCast, Nat.mod_eq_of_lt hs] at hv
            rw [hv.1, finT _ hv.2]
            exact HG.out _ _ _ _ _ _ HR2.out H1.out (HK.out.trans H2.out (fun _ _ h => h))
          · have hr2 := HRDD.out
            rw [if_neg hs] at hr2
            have HR2 := hid hr2
            clear hr2
            go_wp2
            go_roundw
            case rel =>
              have hv := hor.out
              rw [Int.toNat_natCast] at hv
              rw [hv.1]
              exact ⟨4, _, l, A2, n2, c2, by omega, rfl, rfl, by omega, by rw [Int.toNat_natCast]; exact vlt (k := 3) HU.out, by rw [Int.toNat_natCast]; exact HR2.out, H1.out, HK.out.trans H2.out (fun _ _ h => h)⟩
            case measure => simp [RowKit.intOf]
        · have hor := hid (orT 4 268435456 (x.toNat : Int) U (by omega) (by decide) (by omega) (by omega) (by have := HB9.out; omega) hU HU.out)
          have hx0 : ((x.toNat : Int) == 0) = false := by have := HB9.out; simp; omega
          by_cases hs : x.toNat < 128
          · have hr2 := HRDD.out
            rw [if_pos hs] at hr2
            have HR2 := hid hr2.symm
            clear hr2
            go_wp2
            go_ret
            have hv := hor.out
            rw [Int.toNat_natCast, Nat.mod_eq_of_lt hs] at hv
            rw [hv.1, finT _ hv.2]
            exact HG.out _ _ _ _ _ _ HR2.out H1.out (HK.out.trans H2.out (fun _ _ h => h))
          · have hr2 := HRDD.out
            rw [if_neg hs] at hr2
            have HR2 := hid hr2
            clear hr2
            go_wp2
            go_roundw
            case rel =>
              have hv := hor.out
              rw [Int.toNat_natCast] at hv
              rw [hv.1]
              exact ⟨5, _, l, A2, n2, c2, by omega, rfl, rfl, by omega, by rw [Int.toNat_natCast]; exact vlt (k := 4) HU.out, by rw [Int.toNat_natCast]; exact HR2.out, H1.out, HK.out.trans H2.out (fun _ _ h => h)⟩
            case measure => simp [RowKit.intOf]
        · have hor := hid (orT 5 34359738368 (x.toNat : Int) U (by omega) (by decide) (by omega) (by omega) (by have := HB9.out; omega) hU HU.out)
          have hx0 : ((x.toNat : Int) == 0) = false := by have := HB9.out; simp; omega
          by_cases hs : x.toNat < 128
          · have hr2 := HRDD.out
            rw [if_pos hs] at hr2
            have HR2 := hid hr2.symm
            clear hr2
            go_wp2
            go_ret
            have hv := hor.out
            rw [Int.toNat_natCast, Nat.mod_eq_of_lt hs] at hv
            rw [hv.1, finT _ hv.2]
            exact HG.out _ _ _ _ _ _ HR2.out H1.out (HK.out.trans H2.out (fun _ _ h => h))
          · have hr2 := HRDD.out
            rw [if_neg hs] at hr2
            have HR2 := hid hr2
            clear hr2
            go_wp2
            go_roundw
            case rel =>
              have hv := hor.out
              rw [Int.toNat_natCast] at hv
              rw [hv.1]
              exact ⟨6, _, l, A2, n2, c2, by omega, rfl, rfl, by omega, by rw [Int.toNat_natCast]; exact vlt (k := 5) HU.out, by rw [Int.toNat_natCast]; exact HR2.out, H1.out, HK.out.trans H2.out (fun _ _ h => h)⟩
            case measure => simp [RowKit.intOf]
        · have hor := hid (orT 6 4398046511104 (x.toNat : Int) U (by omega) (by decide) (by omega) (by omega) (by have := HB9.out; omega) hU HU.out)
          have hx0 : ((x.toNat : Int) == 0) = false := by have := HB9.out; simp; omega
          by_cases hs : x.toNat < 128
          · have hr2 := HRDD.out
            rw [if_pos hs] at hr2
            have HR2 := hid hr2.symm
            clear hr2
            go_wp2
            go_ret
            have hv := hor.out
            rw [Int.toNat_natCast, Nat.mod_eq_of_lt hs] at hv
            rw [hv.1, finT _ hv.2]
            exact HG.out _ _ _ _ _ _ HR2.out H1.out (HK.out.trans H2.out (fun _ _ h => h))
          · have hr2 := HRDD.out
            rw [if_neg hs] at hr2
            have HR2 := hid hr2
            clear hr2
            go_wp2
            go_roundw
            case rel =>
              have hv := hor.out
              rw [Int.toNat_natCast] at hv
              rw [hv.1]
              exact ⟨7, _, l, A2, n2, c2, by omega, rfl, rfl, by omega, by rw [Int.toNat_natCast]; exact vlt (k := 6) HU.out, by rw [Int.toNat_natCast]; exact HR2.out, H1.out, HK.out.trans H2.out (fun _ _ h => h)⟩
            case measure => simp [RowKit.intOf]
        · have hor := hid (orT 7 562949953421312 (x.toNat : Int) U (by omega) (by decide) (by omega) (by omega) (by have := HB9.out; omega) hU HU.out)
          have hx0 : ((x.toNat : Int) == 0) = false := by have := HB9.out; simp; omega
          by_cases hs : x.toNat < 128
          · have hr2 := HRDD.out
            rw [if_pos hs] at hr2
            have HR2 := hid hr2.symm
            clear hr2
            go_wp2
            go_ret
            have hv := hor.out
            rw [Int.toNat_natCast, Nat.mod_eq_of_lt hs] at hv
            rw [hv.1, finT _ hv.2]
            exact HG.out _ _ _ _ _ _ HR2.out H1.out (HK.out.trans H2.out (fun _ _ h => h))
          · have hr2 := HRDD.out
            rw [if_neg hs] at hr2
            have HR2 := hid hr2
            clear hr2
            go_wp2
            go_roundw
            case rel =>
              have hv := hor.out
              rw [Int.toNat_natCast] at hv
              rw [hv.1]
              exact ⟨8, _, l, A2, n2, c2, by omega, rfl, rfl, by omega, by rw [Int.toNat_natCast]; exact vlt (k := 7) HU.out, by rw [Int.toNat_natCast]; exact HR2.out, H1.out, HK.out.trans H2.out (fun _ _ h => h)⟩
            case measure => simp [RowKit.intOf]
        · have hor := hid (orT 8 72057594037927936 (x.toNat : Int) U (by omega) (by decide) (by omega) (by omega) (by have := HB9.out; omega) hU HU.out)
          have hx0 : ((x.toNat : Int) == 0) = false := by have := HB9.out; simp; omega
          by_cases hs : x.toNat < 128
          · have hr2 := HRDD.out
            rw [if_pos hs] at hr2
            have HR2 := hid hr2.symm
            clear hr2
            go_wp2
            go_ret
            have hv := hor.out
            rw [Int.toNat_natCast, Nat.mod_eq_of_lt hs] at hv
            rw [hv.1, finT _ hv.2]
            exact HG.out _ _ _ _ _ _ HR2.out H1.out (HK.out.trans H2.out (fun _ _ h => h))
          · have hr2 := HRDD.out
            rw [if_neg hs] at hr2
            have HR2 := hid hr2
            clear hr2
            go_wp2
            go_roundw
            case rel =>
              have hv := hor.out
              rw [Int.toNat_natCast] at hv
              rw [hv.1]
              exact ⟨9, _, l, A2, n2, c2, by omega, rfl, rfl, by omega, by rw [Int.toNat_natCast]; exact vlt (k := 8) HU.out, by rw [Int.toNat_natCast]; exact HR2.out, H1.out, HK.out.trans H2.out (fun _ _ h => h)⟩
            case measure => simp [RowKit.intOf]
        · have hx1 : x.toNat = 1 := by have := HB9.out; omega
          have hor := hid (orT 9 9223372036854775808 1 U (by omega) (by decide) (by omega) (by omega) (by omega) hU HU.out)
          have hr2 := HRDD.out
          rw [hx1, if_pos (by decide)] at hr2
          have HR2 := hid hr2.symm
          clear hr2
          rw [hx1]
          go_wp2
          go_ret
          have hv := hor.out
          rw [show (1 : Int).toNat % 128 = 1 by decide] at hv
          rw [hv.1, finT _ hv.2]
          exact HG.out _ _ _ _ _ _ HR2.out H1.out (HK.out.trans H2.out (fun _ _ h => h))
end
end Go.Proofs.Ytkkenfgpmoediaa

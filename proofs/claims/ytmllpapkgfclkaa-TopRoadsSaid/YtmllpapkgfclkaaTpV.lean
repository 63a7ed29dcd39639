import Derived.Test.YtmllpapkgfclkaaTpW
namespace Go.Proofs.Ytmllpapkgfclkaa
open Go.RowKit

/-! ## PathTime -/
def sumT (f : Nat → Int) : List Nat → Int
  | [] => 0
  | i :: P => f i + sumT f P
theorem sumT_app (f : Nat → Int) : ∀ (P Q : List Nat), sumT f (P ++ Q) = sumT f P + sumT f Q
  | [], Q => by simp [sumT]
  | i :: P, Q => by simp [sumT, sumT_app f P Q, Int.add_assoc]
theorem sumT_snoc (f : Nat → Int) {P : List Nat} {k i : Nat} (h : P[k]? = some i) : sumT f (P.take (k + 1)) = sumT f (P.take k) + f i := by
  rw [List.take_add_one, h, sumT_app]; simp [sumT]
theorem sumT_le (f : Nat → Int) (B : Int) : ∀ (P : List Nat), (∀ i ∈ P, 0 ≤ f i ∧ f i ≤ B) → 0 ≤ sumT f P ∧ sumT f P ≤ B * P.length
  | [], _ => by simp [sumT]
  | i :: P, h => by
    have h1 := h i (List.mem_cons_self ..)
    have h2 := sumT_le f B P (fun j hj => h j (List.mem_cons_of_mem _ hj))
    rw [sumT, List.length_cons, Int.natCast_add, Int.mul_add]
    omega
/-- P leads from a to b, by the nodes nu. -/
structure Way (l : List E3) (a b : Int) (P : List Nat) (nu : Nat → Int) : Prop where
  st : nu 0 = a
  en : nu P.length = b
  step : ∀ k i, P[k]? = some i → ∃ e, l[i]? = some e ∧ e.a = nu k ∧ e.b = nu (k + 1)
def wayL (P : List Nat) : List Int := P.map Int.ofNat
theorem wayL_at {P : List Nat} {k i : Nat} (h : P[k]? = some i) : (wayL P)[k]? = some (i : Int) := by simp [wayL, h]
set_option maxRecDepth 100000 in
set_option maxHeartbeats 4000000 in
theorem pathTime_any (w : World) (g N : Nat) (l : List E3) (E : Option Addr) (cE po pi : Nat) (hG : IsG w g N l E cE po pi) (hN : N ≤ 8) (hl : l.length ≤ 16384)
    (ta : Option Addr) (tc : Nat) (times : List Int) (ht : Sl w (fun _ => False) 1 ta times.length (icellsC times)) (htl : times.length ≤ 16384)
    (wA : Option Addr) (wC : Nat) (P : List Nat) (hP : Sl w (fun _ => False) 1 wA P.length (icellsC (wayL P))) (hPl : P.length ≤ 16384)
    (a b : Int) (ha : 0 ≤ a ∧ a < N) (hb : 0 ≤ b ∧ b < N) (nu : Nat → Int) (hW : Way l a b P nu) (hf : ∀ i ∈ P, ttA times i ≠ INF) :
    Calls Try.prog 13 #[.pointer (some ⟨g, 0, none⟩), .slice ta times.length tc, .slice wA P.length wC, .int .i64 a, .int .i64 b] w fun e w' => e = .returned (.tuple #[.int .i64 (sumT (ttA times) P), .int .i64 0]) ∧ Same w w' := by
  have HIA := hid (isNode_any w g N l E cE po pi hG (by omega) a ha.1 ha.2)
  have HIB := hid (isNode_any w g N l E cE po pi hG (by omega) b hb.1 hb.2)
  have HG := hid hG
  have HT := hid ht
  have HP := hid hP
  have HW := hid hW
  have HF := hid hf
  have HED := hid (fun (W : World) (hk : Same w W) (i : Nat) (e0 : E3) (he : l[i]? = some e0) => edge_any W g N l E cE po pi (hG.same hk) hl i e0 he)
  clear hG ht hP hW hf ha hb
  go_enter Try.func13, Try.ntmps13
  go_wp2_with (first
    | (go_at_call 24; (with_reducible refine HIA.out.mono ?_); rintro e w2 ⟨rfl, rfl⟩)
    | (go_at_call 24; (with_reducible refine HIB.out.mono ?_); rintro e w2 ⟨rfl, rfl⟩))
  go_loopw [37] (fun i wr => ∃ k : Nat, k ≤ P.length ∧ i = .int .i64 k ∧ Hid (Same w wr)) (fun i _ => P.length - (RowKit.intOf i).toNat)
  case atStart => exact ⟨0, Nat.zero_le _, rfl, hid (Keep.refl _ _)⟩
  case round =>
    obtain ⟨k, hk, rfl, HL⟩ := hrel
    by_cases hkn : k < P.length
    · obtain ⟨i, hi⟩ := get_some hkn
      obtain ⟨e0, he, _, _⟩ := HW.out.step k i hi
      obtain ⟨b1, o1, rfl, hb1, x0⟩ := ints_at (HP.out.same HL.out) (wayL_at hi)
      have hk0 : (0 : Int) ≤ (k : Int) := Int.natCast_nonneg _
      have hk1 : (k : Int) < (P.length : Int) := by omega
      have HE := hid (HED.out wr HL.out i e0 he)
      clear hi he
      go_wp2_with (go_at_call 26; (with_reducible refine HE.out.mono ?_); rintro e w3 ⟨rfl, hk3⟩; have HK3 := hid hk3; clear hk3)
      go_round
      case rel => exact ⟨k + 1, by omega, by go_num, hid ((HL.out.then HK3.out).then ((Keep.refl (fun _ => False) w3).alloc _))⟩
      case measure => simp [RowKit.intOf]; omega
    · obtain ⟨wo, hwo⟩ : ∃ x, x = wr := ⟨_, rfl⟩
      subst hwo
      have HL1 := HL
      clear HL
      have hke : k = P.length := by omega
      subst hke
      go_wp2_with fail
      go_loopw [16, 53] (fun c i wr => ∃ k : Nat, k ≤ P.length ∧ i = .int .i64 k ∧ c = .int .i64 (nu k) ∧ Hid (Same w wr)) (fun _ i _ => P.length - (RowKit.intOf i).toNat)
      case atStart => exact ⟨0, Nat.zero_le _, rfl, by rw [HW.out.st], HL1⟩
      case round =>
        obtain ⟨k, hk, rfl, rfl, HL⟩ := hrel
        by_cases hkn : k < P.length
        · obtain ⟨i, hi⟩ := get_some hkn
          obtain ⟨e0, he, hea, heb⟩ := HW.out.step k i hi
          obtain ⟨b1, o1, rfl, hb1, x0⟩ := ints_at (HP.out.same HL.out) (wayL_at hi)
          have hk0 : (0 : Int) ≤ (k : Int) := Int.natCast_nonneg _
          have hk1 : (k : Int) < (P.length : Int) := by omega
          have HE := hid (HED.out wr HL.out i e0 he)
          have HEB := hid heb
          have hne : (nu k != nu k) = false := by simp
          clear hi he heb
          go_upto_region 15 with (first | (go_at_call 26; (with_reducible refine HE.out.mono ?_); rintro e w3 ⟨rfl, hk3⟩; have HK3 := hid hk3; clear hk3))
          have hz4 := Blk.made w3 49 #[.int .i64 (nu k), .int .i64 e0.b, .int .i64 e0.c]
          have HK4 := hid ((HL.out.then HK3.out).then ((Keep.refl (fun _ => False) w3).alloc (.cells #[.int .i64 (nu k), .int .i64 e0.b, .int .i64 e0.c] 49)))
          generalize w3.alloc (.cells #[.int .i64 (nu k), .int .i64 e0.b, .int .i64 e0.c] 49) = W4 at *
          obtain ⟨z, hzz⟩ : ∃ z, z = w3.heap.size := ⟨_, rfl⟩
          rw [← hzz] at hz4 ⊢
          have p0 : W4.cell? ⟨z, 0, none⟩ = some (.int .i64 (nu k)) := hz4.at_ 0
          have p1 : W4.cell? ⟨z, 1, none⟩ = some (.int .i64 (nu (k + 1))) := (hz4.at_ 1).trans (by rw [← HEB.out]; rfl)
          clear hz4 hzz x0
          go_wp2_with fail
          go_round
          case rel => exact ⟨k + 1, by omega, by go_num, rfl, HK4⟩
          case measure => simp [RowKit.intOf]; omega
        · obtain ⟨wo, hwo⟩ : ∃ x, x = wr := ⟨_, rfl⟩
          subst hwo
          have HL2 := HL
          clear HL
          have hke : k = P.length := by omega
          subst hke
          rw [HW.out.en]
          have hne : (b != b) = false := by simp
          go_wp2_with fail
          go_loopw [21, 75] (fun c i wr => ∃ k : Nat, k ≤ P.length ∧ i = .int .i64 k ∧ c = .int .i64 (sumT (ttA times) (P.take k)) ∧ Hid (Same w wr)) (fun _ i _ => P.length - (RowKit.intOf i).toNat)
          case atStart => exact ⟨0, Nat.zero_le _, rfl, rfl, HL2⟩
          case round =>
            obtain ⟨k, hk, rfl, rfl, HL⟩ := hrel
            by_cases hkn : k < P.length
            · obtain ⟨i, hi⟩ := get_some hkn
              obtain ⟨b1, o1, rfl, hb1, x0⟩ := ints_at (HP.out.same HL.out) (wayL_at hi)
              have hk0 : (0 : Int) ≤ (k : Int) := Int.natCast_nonneg _
              have hk1 : (k : Int) < (P.length : Int) := by omega
              have HTV := hid (travelTime_any wr ta tc times (HT.out.same HL.out) htl i)
              have hfi := HF.out i (List.mem_of_getElem? hi)
              have htt := ttA_ok times i hfi
              have hsum := sumT_le (ttA times) 1048576 (P.take k) (fun j hj => by have := ttA_ok times j (HF.out j (List.mem_of_mem_take hj)); omega)
              rw [List.length_take, Nat.min_eq_left hk] at hsum
              have hsn := sumT_snoc (ttA times) hi
              have HSN := hid hsn
              have hnI : (ttA times i == 4611686018427387904) = false := by rw [beq_eq_false_iff_ne]; exact hfi
              obtain ⟨tv, htv⟩ : ∃ t, t = ttA times i := ⟨_, rfl⟩
              rw [← htv] at HTV hnI htt HSN
              obtain ⟨sm, hsm⟩ : ∃ t, t = sumT (ttA times) (P.take k) := ⟨_, rfl⟩
              rw [← hsm] at HSN hsum ⊢
              have hadd : IntKind.i64.wrap (sm + tv) = sumT (ttA times) (P.take (k + 1)) := by rw [HSN.out, IntKind.wrap_i64]; omega
              have hr1 : -9223372036854775808 ≤ sm + tv := by omega
              have hr2 : sm + tv < 9223372036854775808 := by omega
              clear hsn hsm htv hi hfi
              go_wp2_with (go_at_call 27; (with_reducible refine HTV.out.mono ?_); rintro e w2 ⟨rfl, rfl⟩)
              go_round
              case rel => exact ⟨k + 1, by omega, by go_num, by rw [HSN.out], HL⟩
              case measure => simp [RowKit.intOf]; omega
            · have hke : k = P.length := by omega
              subst hke
              rw [List.take_length]
              go_wp2_with fail
              go_ret2
              exact ⟨rfl, HL.out⟩
end Go.Proofs.Ytmllpapkgfclkaa

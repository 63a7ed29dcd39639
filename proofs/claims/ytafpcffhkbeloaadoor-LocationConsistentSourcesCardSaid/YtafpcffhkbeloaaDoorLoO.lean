import Derived.Test.YtafpcffhkbeloaaDoorLoN
import Derived.Test.YtafpcffhkbeloaaDoorNsJ
namespace Go.Proofs.YtafpcffhkbeloaaDoor
open Go.RowKit

/-! ## wakes: the document's example -/
def W10 : List Nat := ofW (upN 10)
def V1 : List Nat := 63 :: List.replicate 63 0
def V2 : List Nat := 48 :: List.replicate 63 0
theorem w10_ne : W10 ≠ zeroW := by
  have h : (W10 == zeroW) = false := by kernel_rfl
  intro e
  rw [e] at h
  simp at h
theorem wk_a : addS W10 0 2 [0, 1, 2, 3, 4, 5] = (V1, some true, true, 0) := by kernel_rfl
theorem wk_b : addS V1 1 3 [7, 8, 9] = (V1, some false, false, 0) := by kernel_rfl
theorem wk_c : addS V1 2 1 [4, 5, 6, 7, 8] = (V2, some true, true, 0) := by kernel_rfl
theorem wk_l : elemsI V2 = [4, 5] := by kernel_rfl
theorem add_at (w : World) (eb : Nat) (r : Option Nat) (base : Nat) (all nodes : List Nat) (L : List (Ks × Bool)) (h : EstIs w eb r base all nodes L) (k : Int) (A : Option Addr) (n c : Nat) (ns : List Int) (hl : ns.length = n) (Av : Nat → Prop) (hs : Sl w Av 1 A n (icells ns)) (hn : n ≤ 1000)
    (len : Nat) (hlen : L.length = len) (n2 : List Nat) (b sm : Bool) (er : Int) (hR : addS nodes len k ns = (n2, some b, sm, er)) :
    Calls Tryd.prog 14 #[.pointer (some ⟨eb, 0, none⟩), .agg #[.int .i64 k, .slice A n c]] w (fun e w' => e = .returned (.tuple #[.bool sm, .int .i64 er]) ∧
      ∃ r', EstIs w' eb r' base all n2 (L ++ [((k, ns), b)]) ∧ Keep (fun i => i = eb ∨ some i = r) w w' ∧ (∀ g, r' = some g → r = some g ∨ w.heap.size ≤ g)) := by
  subst hl hlen
  have := add_is w eb r base all nodes L h ⟨k, A, c, ns⟩ Av hs (by show ns.length ≤ 1000000; omega)
  simp only [Sr.key, stepS, hR] at this
  exact this
theorem EstIs.low {w w' : World} {eb : Nat} {r : Option Nat} {base : Nat} {all nodes : List Nat} {L : List (Ks × Bool)} (h : EstIs w eb r base all nodes L) (hk : Keep (fun i => i = eb ∨ some i = r) w w') (w0 : World) (h0 : Same w0 w) (hb : w0.heap.size ≤ base) : Same w0 w' :=
  h0.trans hk (fun i hi e => by
    have h1 := h.lt
    rcases e with e | e
    · omega
    · have := (h1.2.2 i e.symm).1; omega)
theorem sl_lit (w : World) (l : List Int) (n : Nat) (hn : l.length = n) : Sl (w.alloc (.cells (icells l).toArray 3)) (fun _ => False) 1 (some ⟨w.heap.size, 0, none⟩) n (icells l) := by
  have := Sl.of_blk (Av := fun _ => False) (size := 1) (n := n) (Blk.made w 3 (icells l).toArray) (by simp [icells_len, hn]) (fun f => f)
  simpa using this
theorem wk_same (w : World) (Av : Nat → Prop) (A : Option Addr) (c : Nat) (hs : Sl w Av 1 A (elemsI V2).length ((elemsI V2).map (Value.int .i64))) :
    Calls Tryd.prog 33 #[.slice A (elemsI V2).length c, .slice (some ⟨w.heap.size, 0, none⟩) 2 2] (w.alloc (.cells #[.int .i64 4, .int .i64 5] 3)) (fun e w' => e = .returned (.bool true) ∧ Same (w.alloc (.cells #[.int .i64 4, .int .i64 5] 3)) w') := by
  have h1 := same07_any (w.alloc (.cells #[.int .i64 4, .int .i64 5] 3)) _ _ A (some ⟨w.heap.size, 0, none⟩) c 2 (elemsI V2) [4, 5] (hs.same ((Keep.refl _ w).alloc _)) (sl_lit w [4, 5] 2 rfl) (by rw [wk_l]; decide) (by decide)
  rwa [show decide (elemsI V2 = [4, 5]) = true from by rw [wk_l]; rfl] at h1
set_option maxRecDepth 100000 in
set_option maxHeartbeats 8000000 in
theorem wakes_any (w : World) (hT : Tab w) (h0 : 0 < w.heap.size) : Calls Tryd.prog 9 #[] w (fun e w' => e = .returned (.bool true) ∧ Same w w') := by
  have HT := hid (fun W (hk2 : Same w W) => hT.same h0 hk2)
  have HT0 := hid (fun W (hk2 : Same w W) => (show 0 < W.heap.size from Nat.lt_of_lt_of_le h0 hk2.size))
  have hal : Calls Tryd.prog 32 #[.int .i64 10] w (SetPost w W10) := all_any w 10 (by decide)
  have HAL := hid hal
  clear hal
  unfold SetPost at HAL
  clear hT
  go_enter Tryd.func9, Tryd.ntmps9
  go_wp2_with fail
  (with_reducible refine HAL.out.mono ?_)
  rintro e w2 ⟨v2, rfl, hs2, hk2⟩
  have HNW := hid (new_any w2 v2 _ hs2)
  unfold NewPost at HNW
  have HK2 := hid hk2
  have HB := hid hk2.size
  clear hs2 hk2 HAL
  go_wp2_with fail
  (with_reducible refine HNW.out.mono ?_)
  rintro e w3 (⟨hz, rfl, hk3⟩ | ⟨hz, eb, v3, rfl, hE3, hlo3, hk3⟩)
  · exact absurd hz w10_ne
  have HE3 := hid (show EstIs w3 eb none w2.heap.size W10 W10 [] from est0 hE3)
  have HW3 := hid (HK2.out.then hk3)
  clear hz hE3 hlo3 hk3 HNW
  have hka4 : Same w3 (w3.alloc (.cells #[.int .i64 0, .int .i64 1, .int .i64 2, .int .i64 3, .int .i64 4, .int .i64 5] 3)) := (Keep.refl _ _).alloc _
  have HADD4 := hid (add_at (w3.alloc (.cells #[.int .i64 0, .int .i64 1, .int .i64 2, .int .i64 3, .int .i64 4, .int .i64 5] 3)) eb none w2.heap.size W10 W10 ([] : List (Ks × Bool)) (HE3.out.same hka4) 2 (some ⟨w3.heap.size, 0, none⟩) 6 6 [0, 1, 2, 3, 4, 5] rfl _ (sl_lit w3 [0, 1, 2, 3, 4, 5] 6 rfl) (by decide) 0 rfl _ _ _ _ wk_a)
  have HKA4 := hid (HW3.out.then hka4)
  have HEA4 := hid (HE3.out.same hka4)
  clear hka4
  go_wp2_with fail
  (with_reducible refine HADD4.out.mono ?_)
  rintro e w4 ⟨rfl, r4, hE4, hk4, _⟩
  have HE4 := hid hE4
  have HW4 := hid (HEA4.out.low hk4 w HKA4.out HB.out)
  clear hE4 hk4
  have hka5 : Same w4 (w4.alloc (.cells #[.int .i64 7, .int .i64 8, .int .i64 9] 3)) := (Keep.refl _ _).alloc _
  have HADD5 := hid (add_at (w4.alloc (.cells #[.int .i64 7, .int .i64 8, .int .i64 9] 3)) eb r4 w2.heap.size W10 V1 [((2, [0, 1, 2, 3, 4, 5]), true)] (HE4.out.same hka5) 3 (some ⟨w4.heap.size, 0, none⟩) 3 3 [7, 8, 9] rfl _ (sl_lit w4 [7, 8, 9] 3 rfl) (by decide) 1 rfl _ _ _ _ wk_b)
  have HKA5 := hid (HW4.out.then hka5)
  have HEA5 := hid (HE4.out.same hka5)
  clear hka5
  go_wp2_with fail
  (with_reducible refine HADD5.out.mono ?_)
  rintro e w5 ⟨rfl, r5, hE5, hk5, _⟩
  have HE5 := hid hE5
  have HW5 := hid (HEA5.out.low hk5 w HKA5.out HB.out)
  clear hE5 hk5
  have hka6 : Same w5 (w5.alloc (.cells #[.int .i64 4, .int .i64 5, .int .i64 6, .int .i64 7, .int .i64 8] 3)) := (Keep.refl _ _).alloc _
  have HADD6 := hid (add_at (w5.alloc (.cells #[.int .i64 4, .int .i64 5, .int .i64 6, .int .i64 7, .int .i64 8] 3)) eb r5 w2.heap.size W10 V1 [((2, [0, 1, 2, 3, 4, 5]), true), ((3, [7, 8, 9]), false)] (HE5.out.same hka6) 1 (some ⟨w5.heap.size, 0, none⟩) 5 5 [4, 5, 6, 7, 8] rfl _ (sl_lit w5 [4, 5, 6, 7, 8] 5 rfl) (by decide) 2 rfl _ _ _ _ wk_c)
  have HKA6 := hid (HW5.out.then hka6)
  have HEA6 := hid (HE5.out.same hka6)
  clear hka6
  go_wp2_with fail
  (with_reducible refine HADD6.out.mono ?_)
  rintro e w6 ⟨rfl, r6, hE6, hk6, _⟩
  have HE6 := hid hE6
  have HW6 := hid (HEA6.out.low hk6 w HKA6.out HB.out)
  clear hE6 hk6
  have HL := hid (show EstIs w6 eb r6 w2.heap.size W10 V2 [((2, [0, 1, 2, 3, 4, 5]), true), ((3, [7, 8, 9]), false), ((1, [4, 5, 6, 7, 8]), true)] from HE6.out)
  go_wp2_with (first
    | ((with_reducible refine (nodes_is w6 eb r6 w2.heap.size W10 V2 _ HL.out).mono ?_); rintro e w7 ⟨v7, rfl, hs7, hk7⟩; have HS7 := hid hs7; have HK7 := hid (HW6.out.then hk7); have HL7 := hid (HL.out.same hk7); clear hs7 hk7)
    | ((with_reducible refine (list_any w7 (HT.out _ HK7.out) (HT0.out _ HK7.out) v7 V2 HS7.out).mono ?_); rintro e w8 ⟨v8, rfl, ho8, hk8⟩; obtain ⟨A8, c8, rfl⟩ := Own.shape ho8; have HS8 := hid (Own.slN ho8); have HK8 := hid (HK7.out.then hk8); have HL8 := hid (HL7.out.same hk8); clear ho8 hk8)
    | ((with_reducible refine (wk_same w8 _ A8 c8 HS8.out).mono ?_); rintro e w9 ⟨rfl, hk9⟩; have HK9 := hid ((HK8.out.alloc _).then hk9); have HL9 := hid ((HL8.out.same ((Keep.refl _ w8).alloc _)).same hk9); clear hk9)
    | ((with_reducible refine (rejected_is w9 eb r6 w2.heap.size W10 V2 _ HL9.out).mono ?_); rintro e w10 ⟨B10, d10, F10, hf10, rfl, _, hk10⟩; have e10 : F10.length = 1 := (by have := congrArg List.length hf10; simpa [keys, tl] using this); have HK10 := hid (HK9.out.then hk10); have HL10 := hid (HL9.out.same hk10); clear hk10 hf10; rw [e10]; clear e10)
    | ((with_reducible refine (accepted_is w10 eb r6 w2.heap.size W10 V2 _ HL10.out).mono ?_); rintro e w11 ⟨B11, d11, F11, hf11, rfl, _, hk11⟩; have e11 : F11.length = 2 := (by have := congrArg List.length hf11; simpa [keys, tl] using this); have HK11 := hid (HK10.out.then hk11); clear hk11 hf11; rw [e11]; clear e11))
  go_ret
  exact ⟨rfl, HK11.out⟩
end Go.Proofs.YtafpcffhkbeloaaDoor

import Derived.Test.YtohgclbgjdpggaaWireM
namespace Go.Proofs.Ytohgclbgjdpggaa
open Go.RowKit

/-! ## The example of the document -/
theorem ex1 : encI 64 = [128, 1] := by
  unfold encI
  rw [show Lib.zigzag 64 = 128 by decide, Lib.uvarint_big (by omega), Lib.uvarint_small (by omega)]
  rfl
theorem ex2 : encD [97, 98] = [4, 97, 98] := by
  unfold encD encI
  rw [show Lib.zigzag (([97, 98] : List UInt8).length : Int) = 4 by decide, Lib.uvarint_small (by omega)]
  rfl
theorem ex3 : encL [1, -1] = [4, 2, 1] := by
  have e0 : Lib.zigzag (([1, -1] : List Int).length : Int) = 4 := by decide
  have e1 : Lib.zigzag 1 = 2 := by decide
  have e2 : Lib.zigzag (-1) = 1 := by decide
  simp only [encL, encIs, encI, List.flatMap_cons, List.flatMap_nil, e0, e1, e2]
  rw [Lib.uvarint_small (by omega), Lib.uvarint_small (by omega), Lib.uvarint_small (by omega)]
  rfl
def exB : List UInt8 := [128, 1, 1, 4, 97, 98, 4, 2, 1]
theorem ex4 : rdInt ⟨exB, 0⟩ = (64, ⟨[1, 4, 97, 98, 4, 2, 1], 0⟩) := by kernel_rfl
theorem ex5 : rdBool ⟨[1, 4, 97, 98, 4, 2, 1], 0⟩ = (true, ⟨[4, 97, 98, 4, 2, 1], 0⟩) := by kernel_rfl
theorem ex6 : rdBytes ⟨[4, 97, 98, 4, 2, 1], 0⟩ = ([97, 98], ⟨[4, 2, 1], 0⟩) := by kernel_rfl
theorem ex7 : rdInts ⟨[4, 2, 1], 0⟩ = ([1, -1], ⟨[], 0⟩) := by kernel_rfl
theorem ex8 : rdInt ⟨[128], 0⟩ = (0, ⟨[], 11⟩) := by kernel_rfl
theorem bcells_exB : bcells exB = bcells ([128, 1] ++ [1] ++ [4, 97, 98] ++ [4, 2, 1]) := rfl

set_option maxRecDepth 100000 in
set_option maxHeartbeats 4000000 in
theorem awake_any (w : World) : Calls Try.prog 9 #[] w fun e w' => e = .returned (.bool true) ∧ Same w w' := by
  have hk0 : Same w (w.alloc (.cells #[.slice none 0 0] 46)) := (Keep.refl _ w).alloc _
  have hW : Wr (w.alloc (.cells #[.slice none 0 0] 46)) w.heap.size none none 0 [] := ⟨Blk.made w 46 #[.slice none 0 0], Own.nil _ 0 5 1, rfl, fun g e => by cases e⟩
  have HK := hid hk0
  have HC := hid (wInt_any _ w.heap.size none none 0 [] hW (by simp) 64 (by omega) (by omega))
  rw [ex1, List.nil_append] at HC
  clear hk0 hW
  go_enter Try.func9, Try.ntmps9
  go_wp2_with fail
  refine HC.out.mono ?_
  rintro e w1 ⟨r1, A1, c1, rfl, g1, g2, g3⟩
  have hk1 : Same w w1 := HK.out.trans g2 (fun i hi hs => by rcases hs with hs | hs; omega; cases hs)
  have hr1 : ∀ g, r1 = some g → w.heap.size ≤ g := fun g e => by rcases g3 g e with h | h; cases h; simp at h; omega
  have HK1 := hid hk1
  have HR1 := hid hr1
  have HC1 := hid (wBool_any w1 w.heap.size r1 A1 c1 _ g1 (by simp) true)
  clear g1 g2 g3 hk1 hr1 HC
  rw [show encB true = [1] from rfl] at HC1
  go_wp2_with fail
  refine HC1.out.mono ?_
  rintro e w2 ⟨r2, A2, c2, rfl, g1, g2, g3⟩
  have hk1 : Same w w2 := HK1.out.trans g2 (fun i hi hs => by rcases hs with hs | hs; omega; have := HR1.out i hs.symm; omega)
  have hr1 : ∀ g, r2 = some g → w.heap.size ≤ g := fun g e => by rcases g3 g e with h | h; exact HR1.out g h; exact Nat.le_trans HK1.out.size h
  have HK2 := hid hk1
  have HR2 := hid hr1
  have HC2 := hid (wString_any w2 w.heap.size r2 A2 c2 _ g1 (by simp) ⟨#[97, 98]⟩ (by decide))
  clear g1 g2 g3 hk1 hr1 HC1
  rw [show encD (⟨#[97, 98]⟩ : ByteArray).data.toList = [4, 97, 98] from ex2] at HC2
  go_wp2_with fail
  refine HC2.out.mono ?_
  rintro e w3 ⟨r3, A3, c3, rfl, g1, g2, g3⟩
  have hk1 : Same w w3 := HK2.out.trans g2 (fun i hi hs => by rcases hs with hs | hs; omega; have := HR2.out i hs.symm; omega)
  have hr1 : ∀ g, r3 = some g → w.heap.size ≤ g := fun g e => by rcases g3 g e with h | h; exact HR2.out g h; exact Nat.le_trans HK2.out.size h
  have hka : Same w3 (w3.alloc (.cells #[.int .i64 1, .int .i64 (-1)] 3)) := (Keep.refl _ w3).alloc _
  have HK3 := hid (hk1.then hka)
  have HR3 := hid hr1
  have hwb := g1.top.lt
  have hlt3 := g1.lt
  have HC3 := hid (wInts_any (w3.alloc (.cells #[.int .i64 1, .int .i64 (-1)] 3)) w.heap.size r3 A3 c3 _ (g1.same hka) (by simp) (some ⟨w3.heap.size, 0, none⟩) 2 2 [1, -1]
    (Sl.of_blk (Blk.made w3 3 #[.int .i64 1, .int .i64 (-1)]) rfl (by
      rintro (h | h)
      · omega
      · have := hlt3 _ h.symm; omega)) (by omega) (by intro x hx; simp at hx; rcases hx with rfl | rfl <;> (unfold i64ok; omega)))
  clear g1 g2 g3 hk1 hr1 HC2 hka hlt3
  rw [ex3] at HC3
  go_wp2_with fail
  refine HC3.out.mono ?_
  rintro e w4 ⟨r4, A4, c4, rfl, g1, g2, g3⟩
  have hk1 : Same w w4 := HK3.out.trans g2 (fun i hi hs => by rcases hs with hs | hs; omega; have := HR3.out i hs.symm; omega)
  have HK4 := hid hk1
  have HC4 := hid (encoded_any w4 w.heap.size r4 A4 c4 exB g1 (by decide))
  have hwb4 := g1.top.lt
  clear g1 g2 g3 hk1 HC3
  go_wp2_with fail
  refine HC4.out.mono ?_
  rintro e w5 ⟨rfl, g1, g2⟩
  have hkb : Same w5 (w5.alloc (.cells #[] 5)) := (Keep.refl _ w5).alloc _
  have HBS := hid g1
  have HK5 := hid (HK4.out.then g2)
  have HKB := hid hkb
  have hsr := (Sl.of_blk (Av := fun _ => False) (size := 1) (n := 9) g1 rfl (fun f => f)).src hkb
  have HSR := hid hsr
  have hz5 := g2.size
  clear g1 g2 hkb hsr
  go_wp2_with (
    at_builtin
    refine EBy.law (.tmp 17) (.tmp 18) (.slice (some ⟨w5.heap.size, 0, none⟩) 0 0) (some ⟨w4.heap.size, 0, none⟩) 9 9 rfl rfl rfl rfl w5.heap.size 0 [] (bcells exB) (Own.lit0 w5 5 1) rfl HSR.out (bcells_one _) (by omega) (by unfold maxLen; omega) (by simp) ?_
    intro A' c' w6 hown hg
    simp only [Nat.zero_add, List.nil_append] at hown
    have hk2 : Same w5 w6 := HKB.out.app (Own.lit0 w5 5 1) hg (fun g h1 h2 => by omega)
    have HOW := hid hown
    have HK6 := hid hk2
    clear hg hown hk2)
  refine (newReader_any w6 (fun _ => False) A' 9 c' exB (HOW.out.sl (fun _ _ f => f)) (by omega)).mono ?_
  rintro e w7 ⟨rb, A7, c7, rfl, hrb, hR, hk7⟩
  have HK7 := hid ((HK5.out.then HK6.out).then hk7)
  have HB7 := hid ((HBS.out.keep HK6.out (fun f => f)).keep hk7 (fun f => f))
  have hrbw : w.heap.size ≤ rb := Nat.le_trans (Nat.le_trans HK5.out.size HK6.out.size) hrb
  have hrbb : ¬ w4.heap.size = rb := by have := HK6.out.size; have := HBS.out.lt; omega
  have HC7 := hid (rInt_any w7 rb _ A7 _ c7 _ hR)
  rw [ex4] at HC7
  clear hR hk7
  go_wp2_with fail
  refine HC7.out.mono ?_
  rintro e w8 ⟨A8, n8, c8, rfl, hR, hk8⟩
  have HK8 := hid (HK7.out.trans hk8 (fun i hi e => by omega))
  have HB8 := hid (HB7.out.keep hk8 hrbb)
  have HC8 := hid (rBool_any w8 rb _ A8 _ c8 _ hR)
  rw [ex5] at HC8
  clear hR hk8 HC7
  go_wp2_with fail
  refine HC8.out.mono ?_
  rintro e w9 ⟨A9, n9, c9, rfl, hR, hk9⟩
  have HK9 := hid (HK8.out.trans hk9 (fun i hi e => by omega))
  have HB9 := hid (HB8.out.keep hk9 hrbb)
  have HC9 := hid (rString_any w9 rb _ A9 _ c9 _ hR (by simp))
  rw [ex6] at HC9
  clear hR hk9 HC8
  go_wp2_with fail
  refine HC9.out.mono ?_
  rintro e w10 ⟨A10, n10, c10, rfl, hR, hk10⟩
  have HK10 := hid (HK9.out.trans hk10 (fun i hi e => by omega))
  have HB10 := hid (HB9.out.keep hk10 hrbb)
  have hrb10 := hR.top.lt
  have HC10 := hid (rInts_any w10 rb _ A10 _ c10 _ hR (by simp))
  rw [ex7] at HC10
  clear hR hk10 HC9
  go_wp2_with fail
  refine HC10.out.mono ?_
  rintro e w11 ⟨A11, n11, c11, B11, rfl, hR, hk11, hB11⟩
  have HK11 := hid (HK10.out.trans hk11 (fun i hi e => by omega))
  have HB11 := hid (HB10.out.keep hk11 hrbb)
  have HC11 := hid (finish_any w11 rb _ A11 _ c11 _ hR (by simp))
  obtain ⟨g, rfl, hg, hGB⟩ := hB11 (by simp)
  have HGB := hid hGB
  have hrb11 := hR.top.lt
  have hgrb : ¬ g = rb := by omega
  clear hR hk11 hB11 HC10 hGB
  simp only [List.length_map, List.length_cons, List.length_nil, Nat.zero_add, Nat.reduceAdd]
  go_wp2_with fail
  refine HC11.out.mono ?_
  rintro e w12 ⟨rfl, rfl⟩
  clear HC11
  rw [show endE ⟨[], 0⟩ = 0 from rfl]
  have hka : Same w11 (w11.alloc (.cells #[.int .u8 128] 5)) := (Keep.refl _ w11).alloc _
  have HC12 := hid (newReader_any (w11.alloc (.cells #[.int .u8 128] 5)) (fun _ => False) (some ⟨w11.heap.size, 0, none⟩) 1 1 [128] (Sl.of_blk (Blk.made w11 5 #[.int .u8 128]) rfl (fun f => f)) (by omega))
  have HKA := hid hka
  clear hka
  go_wp2_with fail
  refine HC12.out.mono ?_
  rintro e w13 ⟨qb, A13, c13, rfl, hqb, hR, hk13⟩
  have hk := HKA.out.then hk13
  have HK13 := hid (HK11.out.then hk)
  have HB13 := hid (HB11.out.keep hk (fun f => f))
  have HG13 := hid (HGB.out.keep hk (fun f => f))
  simp only [World.size_alloc] at hqb
  have hs11 := HK11.out.size
  have hqbw : w.heap.size ≤ qb := by omega
  have hqbb : ¬ w4.heap.size = qb := by have := HB11.out.lt; omega
  have hqbg : ¬ g = qb := by have := HGB.out.lt; omega
  have HC13 := hid (rInt_any w13 qb _ A13 _ c13 _ hR)
  rw [ex8] at HC13
  clear hR hk13 hk HC12
  go_wp2_with fail
  refine HC13.out.mono ?_
  rintro e w14 ⟨A14, n14, c14, rfl, hR, hk14⟩
  have HK14 := hid (HK13.out.trans hk14 (fun i hi e => by omega))
  have hB14 := HB13.out.keep hk14 hqbb
  have hG14 := HG13.out.keep hk14 hqbg
  have hcv := conv_str w14 (fun _ => False) (some ⟨w4.heap.size, 0, none⟩) exB.length exB.length exB (Sl.of_blk hB14 rfl (fun f => f))
  rw [show strOf exB = ⟨#[128, 1, 1, 4, 97, 98, 4, 2, 1]⟩ from rfl] at hcv
  rw [show strOf (([97, 98], (⟨[4, 2, 1], 0⟩ : RS)) : List UInt8 × RS).1 = ⟨#[97, 98]⟩ from rfl]
  have q0 : w14.cell? ⟨g, 0, none⟩ = some (.int .i64 1) := hG14.at_ 0
  have q1 : w14.cell? ⟨g, 1, none⟩ = some (.int .i64 (-1)) := hG14.at_ 1
  have HC14 := hid (finish_any w14 qb _ A14 _ c14 _ hR (by simp))
  clear hR hk14 hB14 hG14 HC13
  go_wp2_with fail
  refine HC14.out.mono ?_
  rintro e w15 ⟨rfl, rfl⟩
  rw [show endE ⟨[], 11⟩ = 11 from rfl]
  go_wp2
  go_ret
  exact ⟨rfl, HK14.out⟩
end Go.Proofs.Ytohgclbgjdpggaa

import Derived.Test.YtbellndcgagclaaEncP
namespace Go.Proofs.Ytbellndcgagclaa
open Go.RowKit

/-! ## Encode, the reference's Bytes -/
/-- bytes that the call made -/
def EncPost (w : World) (bs : List UInt8) (e : Ending) (w' : World) : Prop :=
  ∃ A n c, e = .returned (.slice A n c) ∧ bs.length = n ∧ Sl w' (· < w.heap.size) 1 A n (bcells bs) ∧ Same w w'
theorem EncPost.nil {w w' : World} (h : Same w w') : EncPost w [] (.returned (.slice none 0 0)) w' := ⟨none, 0, 0, rfl, rfl, Sl.nil _ _ _ _, h⟩
/-- the state between two writes: the entry in its cell, the writer behind it -/
structure EncS (w w1 : World) (x : En) (wb : Nat) (r : Option Nat) (A : Option Addr) (c : Nat) (bs : List UInt8) : Prop where
  wr : Wr w1 wb r A c bs
  top : Blk w1 w.heap.size 46 x.cells.toArray
  same : Same w w1
  r0 : ∀ g, r = some g → w.heap.size < g
  wb0 : w.heap.size < wb
theorem EncS.next {w w1 w2 : World} {x : En} {wb : Nat} {r r2 : Option Nat} {A A2 : Option Addr} {c c2 : Nat} {bs bs2 : List UInt8} (h : EncS w w1 x wb r A c bs) (hW : Wr w2 wb r2 A2 c2 bs2)
    (hK : Keep (fun i => i = wb ∨ some i = r) w1 w2) (hg : ∀ g, r2 = some g → r = some g ∨ w1.heap.size ≤ g) : EncS w w2 x wb r2 A2 c2 bs2 := by
  have hne : ∀ i, i ≤ w.heap.size → (i = wb ∨ some i = r) → False := fun i hi hs => by
    rcases hs with hs | hs
    · have := h.wb0; omega
    · have := h.r0 i hs.symm; omega
  refine ⟨hW, h.top.keep hK (hne _ (Nat.le_refl _)), h.same.trans hK (fun i hi hs => (hne i (Nat.le_of_lt hi) hs).elim), fun g e => ?_, h.wb0⟩
  rcases hg g e with e | e
  · exact h.r0 g e
  · have := h.top.lt; omega
theorem EncS.cells {w w1 : World} {t k : Int} {B : Option Addr} {m d : Nat} {y : List Int} {wb : Nat} {r : Option Nat} {A : Option Addr} {c : Nat} {bs : List UInt8} (h : EncS w w1 ⟨t, k, B, m, d, y⟩ wb r A c bs) :
    w1.cell? ⟨w.heap.size, 0, none⟩ = some (.int .i64 t) ∧ w1.cell? ⟨w.heap.size, 1, none⟩ = some (.int .i64 k) ∧ w1.cell? ⟨w.heap.size, 2, none⟩ = some (.slice B m d) := ⟨h.top.at_ 0, h.top.at_ 1, h.top.at_ 2⟩
set_option maxHeartbeats 4000000 in
set_option maxRecDepth 100000 in
theorem encode_any (w : World) (Av : Nat → Prop) (x : En) (h : EnOk w Av x) (h9 : x.m ≤ 9000) : Calls Try.prog 33 #[x.val] w (EncPost w (encQ x.pe)) := by
  have hk0 : Same w (w.alloc (.cells #[.int .i64 x.t, .int .i64 x.k, .slice x.A x.m x.c] 46)) := (Keep.refl _ w).alloc _
  have HV := hid (valid_any _ _ x (h.same hk0))
  have hb0 := Blk.made w 46 #[.int .i64 x.t, .int .i64 x.k, .slice x.A x.m x.c]
  have HB0 := hid hb0
  have HX := hid h.body.old
  have hlen := h.len
  have HU := hid (bcells_toU h.bytes)
  obtain ⟨t, k, A, m, c, y⟩ := x
  have c0 : (w.alloc (.cells #[.int .i64 t, .int .i64 k, .slice A m c] 46)).cell? ⟨w.heap.size, 0, none⟩ = some (.int .i64 t) := hb0.at_ 0
  have c1 : (w.alloc (.cells #[.int .i64 t, .int .i64 k, .slice A m c] 46)).cell? ⟨w.heap.size, 1, none⟩ = some (.int .i64 k) := hb0.at_ 1
  have c2 : (w.alloc (.cells #[.int .i64 t, .int .i64 k, .slice A m c] 46)).cell? ⟨w.heap.size, 2, none⟩ = some (.slice A m c) := hb0.at_ 2
  have HK0 := hid hk0
  clear h hk0 hb0
  simp only at hlen h9 HX HU
  unfold En.val at *
  by_cases hr : rightP (En.pe ⟨t, k, A, m, c, y⟩) = true
  · have hri := rightP_iff hr
    simp only [En.pe] at hri
    rw [hr] at HV
    have e : encQ (En.pe ⟨t, k, A, m, c, y⟩) = encE t k (toU y) := by unfold encQ; rw [if_pos hr]; rfl
    rw [e]
    have HL := hid (encE_le (t := t) (k := k) (b := toU y) ⟨by omega, by omega⟩ ⟨by omega, by omega⟩ (by rw [toU_len]; omega))
    have HL1 := hid (encI_le (n := t) ⟨by omega, by omega⟩)
    have HL2 := hid (encI_le (n := k) ⟨by omega, by omega⟩)
    have HTL := hid (toU_len y)
    have hy : y.length ≤ 8192 := hri.2.2.2.2
    obtain ⟨t1, t2, k1, k2, _⟩ := hri
    clear hr e
    go_enter Try.func33, Try.ntmps33
    go_wp2_with fail
    refine HV.out.mono ?_
    rintro e w1 ⟨rfl, hk1⟩
    have hb1 := HB0.out.keep hk1 (fun f => f)
    have hlt := hb1.lt
    have HS0 : Hid (EncS w (w1.alloc (.cells #[.slice none 0 0] 87)) ⟨t, k, A, m, c, y⟩ w1.heap.size none none 0 []) :=
      hid ⟨⟨Blk.made w1 87 #[.slice none 0 0], Own.nil _ 0 5 1, rfl, fun g e => by cases e⟩, hb1.alloc _, (HK0.out.then hk1).alloc _, fun g e => by (cases e), hlt⟩
    obtain ⟨d0, _, _⟩ := HS0.out.cells
    have HC := hid (wInt_any _ w1.heap.size none none 0 [] HS0.out.wr (by simp) t (by omega) (by omega))
    generalize hwb : w1.heap.size = wb at *
    clear hk1 hb1 HV c0 c1 c2 HB0 HK0
    go_wp2_with fail
    refine HC.out.mono ?_
    rintro e w2 ⟨r2, A2, c2, rfl, hW2, hK2, hg2⟩
    have HS1 := hid (HS0.out.next hW2 hK2 hg2)
    obtain ⟨_, d1, _⟩ := HS1.out.cells
    have HC2 := hid (wInt_any _ wb r2 A2 c2 _ hW2 (by have := HL1.out; simp; omega) k (by omega) (by omega))
    clear hW2 hK2 hg2 HC HS0
    go_wp2_with fail
    refine HC2.out.mono ?_
    rintro e w3 ⟨r3, A3, c3, rfl, hW3, hK3, hg3⟩
    have HS2 := hid (HS1.out.next hW3 hK3 hg3)
    obtain ⟨_, _, d2⟩ := HS2.out.cells
    have HC3 := hid (wBytes_any _ wb r3 A3 c3 _ hW3 (by have := HL1.out; have := HL2.out; simp; omega) A m c (toU y) (by
      rw [HU.out]
      exact (HX.out.same HS2.out.same).wide (fun i _ hs => by
        rcases hs with rfl | hs
        · exact Nat.le_of_lt HS2.out.wb0
        · exact Nat.le_of_lt (HS2.out.r0 i hs.symm))) (by omega))
    clear hW3 hK3 hg3 HC2 HS1
    go_wp2_with fail
    refine HC3.out.mono ?_
    rintro e w4 ⟨r4, A4, c4, rfl, hW4, hK4, hg4⟩
    have HS3 := hid (HS2.out.next hW4 hK4 hg4)
    rw [show [] ++ encI t ++ encI k ++ encD (toU y) = encE t k (toU y) by simp [encE]] at hW4 HS3
    have HC4 := hid (encoded_any _ wb r4 A4 c4 _ hW4 (by have := HL.out; have := HTL.out; omega))
    clear hW4 hK4 hg4 HC3 HS2
    generalize encE t k (toU y) = bs at *
    go_wp2_with fail
    refine HC4.out.mono ?_
    rintro e w5 ⟨rfl, hB5, hK5⟩
    have HS4 := hid HS3.out.same
    have hz := HS3.out.same.size
    go_wp2
    go_ret
    exact ⟨_, _, _, rfl, rfl, Sl.of_blk hB5 (by simp) (by omega), HS4.out.then hK5⟩
  · have hr' : rightP (En.pe ⟨t, k, A, m, c, y⟩) = false := by simpa using hr
    rw [hr'] at HV
    have e : encQ (En.pe ⟨t, k, A, m, c, y⟩) = [] := by unfold encQ; rw [hr']; rfl
    rw [e]
    clear hr hr' e
    go_enter Try.func33, Try.ntmps33
    go_wp2_with fail
    refine HV.out.mono ?_
    rintro e w1 ⟨rfl, hk1⟩
    go_wp2
    go_ret
    exact EncPost.nil (HK0.out.then hk1)
set_option maxHeartbeats 4000000 in
set_option maxRecDepth 100000 in
theorem rbytes_any (w : World) (Av : Nat → Prop) (x : En) (h : EnOk w Av x) (h9 : x.m ≤ 9000) : Calls Try.prog 32 #[x.val] w (EncPost w (encQ x.pe)) := by
  have hk0 : Same w (w.alloc (.cells #[.int .i64 x.t, .int .i64 x.k, .slice x.A x.m x.c] 46)) := (Keep.refl _ w).alloc _
  have HV := hid (right_any _ _ x (h.same hk0))
  have hb0 := Blk.made w 46 #[.int .i64 x.t, .int .i64 x.k, .slice x.A x.m x.c]
  have HB0 := hid hb0
  have HX := hid h.body
  have hlen := h.len
  have HU := hid (bcells_toU h.bytes)
  obtain ⟨t, k, A, m, c, y⟩ := x
  have c0 : (w.alloc (.cells #[.int .i64 t, .int .i64 k, .slice A m c] 46)).cell? ⟨w.heap.size, 0, none⟩ = some (.int .i64 t) := hb0.at_ 0
  have c1 : (w.alloc (.cells #[.int .i64 t, .int .i64 k, .slice A m c] 46)).cell? ⟨w.heap.size, 1, none⟩ = some (.int .i64 k) := hb0.at_ 1
  have c2 : (w.alloc (.cells #[.int .i64 t, .int .i64 k, .slice A m c] 46)).cell? ⟨w.heap.size, 2, none⟩ = some (.slice A m c) := hb0.at_ 2
  have HK0 := hid hk0
  clear h hk0 hb0
  simp only at hlen h9 HX HU
  unfold En.val at *
  by_cases hr : rightP (En.pe ⟨t, k, A, m, c, y⟩) = true
  · have hri := rightP_iff hr
    simp only [En.pe] at hri
    rw [hr] at HV
    have e : encQ (En.pe ⟨t, k, A, m, c, y⟩) = encE t k (toU y) := by unfold encQ; rw [if_pos hr]; rfl
    rw [e]
    have HL1 := hid (encI_le (n := t) ⟨by omega, by omega⟩)
    have HL2 := hid (encI_le (n := k) ⟨by omega, by omega⟩)
    have HL3 := hid (encI_le (n := (m : Int)) ⟨by omega, by omega⟩)
    have HTL := hid (toU_len y)
    have hy : y.length ≤ 8192 := hri.2.2.2.2
    have HEE := hid (show encE t k (toU y) = encI t ++ encI k ++ encI (m : Int) ++ toU y by simp [encE, encD, toU_len, hlen])
    rw [HEE.out]
    obtain ⟨t1, t2, k1, k2, _⟩ := hri
    clear hr e
    generalize hu : toU y = u at *
    clear hu
    go_enter Try.func32, Try.ntmps32
    go_wp2_with fail
    refine HV.out.mono ?_
    rintro e w1 ⟨rfl, hk1⟩
    have hb1 := HB0.out.keep hk1 (fun f => f)
    have d0 : w1.cell? ⟨w.heap.size, 0, none⟩ = some (.int .i64 t) := hb1.at_ 0
    have HB1 := hid hb1
    have HK1 := hid (HK0.out.then hk1)
    have hz1 := hb1.lt
    clear hk1 hb1 HV c0 c1 c2 HB0 HK0
    go_wp2_with fail
    refine (pInt_any w1 t (by omega) (by omega)).mono ?_
    rintro e w2 ⟨A2, c2, rfl, ho2, hk2⟩
    have HO2 := hid ho2
    have HK2 := hid (HK1.out.then hk2)
    have HB2 := hid (HB1.out.keep hk2 (fun f => f))
    have hz2 := hk2.size
    have d1 : w2.cell? ⟨w.heap.size, 1, none⟩ = some (.int .i64 k) := HB2.out.at_ 1
    generalize hl1 : (encI t).length = l1 at *
    clear ho2 hk2
    go_wp2_with fail
    refine (pInt_any w2 k (by omega) (by omega)).mono ?_
    rintro e w3 ⟨A3, c3, rfl, ho3, hk3⟩
    have HO3 := hid (HO2.out.keep hk3 (fun _ _ _ f => f))
    have HS3 := hid ((ho3.sl (Av := fun _ => False) (fun _ _ f => f)).src (Keep.refl _ w3))
    have HK3 := hid (HK2.out.then hk3)
    have HB3 := hid (HB2.out.keep hk3 (fun f => f))
    have hz3 := hk3.size
    generalize hl2 : (encI k).length = l2 at *
    have HL2' := hid hl2
    clear ho3 hk3
    go_wp2_with (
      at_builtin
      refine EBy.law2 (.tmp 10) (.tmp 13) (.slice A2 l1 c2) A3 l2 c3 rfl rfl rfl rfl w1.heap.size l1 _ (bcells (encI k)) (l1 + l2) _ rfl rfl HO3.out (by rw [bcells_len, HL2'.out]; omega) HS3.out (bcells_one _) (by have := HL1.out; have := HL2.out; omega) (by have := HL1.out; have := HL2.out; unfold maxLen; omega) (by omega) ?_
      intro A4 c4 w4 ho hg hw
      have hkk := (Keep.refl (fun _ => False) w3)
      have HK4 := hid (HK3.out.app HO3.out hg (fun g h1 h2 => by omega))
      have hb4 := HB3.out.keep (S := fun i => w1.heap.size ≤ i) ((Keep.refl _ w3).app HO3.out hg (fun g h1 h2 => h1)) (by omega)
      have d2 : w4.cell? ⟨w.heap.size, 2, none⟩ = some (.slice A m c) := hb4.at_ 2
      have HB4 := hid hb4
      have HO4 := hid ho
      have hz4 : w3.heap.size ≤ w4.heap.size := ((Keep.refl (fun i => w1.heap.size ≤ i) w3).app HO3.out hg (fun g h1 h2 => h1)).size
      clear ho hg hw hkk hb4)
    refine (pInt_any w4 m (by omega) (by omega)).mono ?_
    rintro e w5 ⟨A5, c5, rfl, ho5, hk5⟩
    have HO5 := hid (HO4.out.keep hk5 (fun _ _ _ f => f))
    have HS5 := hid ((ho5.sl (Av := fun _ => False) (fun _ _ f => f)).src (Keep.refl _ w5))
    have HK5 := hid (HK4.out.then hk5)
    have HB5 := hid (HB4.out.keep hk5 (fun f => f))
    have hz5 := hk5.size
    generalize hl3 : (encI (m : Int)).length = l3 at *
    have HL3' := hid hl3
    clear ho5 hk5
    go_wp2_with (first
      | (at_builtin
         refine EBy.law2 (.tmp 15) (.tmp 19) (.slice A4 (l1 + l2) c4) A5 l3 c5 rfl rfl rfl rfl w1.heap.size (l1 + l2) _ (bcells (encI (m : Int))) (l1 + l2 + l3) _ rfl rfl HO5.out (by rw [bcells_len, HL3'.out]; omega) HS5.out (bcells_one _) (by have := HL1.out; have := HL2.out; have := HL3.out; omega) (by have := HL1.out; have := HL2.out; have := HL3.out; unfold maxLen; omega) (by omega) ?_
         intro A6 c6 w6 ho hg hw
         have HK6 := hid (HK5.out.app HO5.out hg (fun g h1 h2 => by omega))
         have hb6 := HB5.out.keep (S := fun i => w1.heap.size ≤ i) ((Keep.refl _ w5).app HO5.out hg (fun g h1 h2 => h1)) (by omega)
         have d3 : w6.cell? ⟨w.heap.size, 2, none⟩ = some (.slice A m c) := hb6.at_ 2
         have HO6 := hid ho
         have hz6 : w5.heap.size ≤ w6.heap.size := ((Keep.refl (fun i => w1.heap.size ≤ i) w5).app HO5.out hg (fun g h1 h2 => h1)).size
         clear ho hg hw hb6)
      | (at_builtin
         refine EBy.law2 (.tmp 21) (.tmp 23) (.slice A6 (l1 + l2 + l3) c6) A m c rfl rfl rfl rfl w1.heap.size (l1 + l2 + l3) _ (bcells u) (l1 + l2 + l3 + m) _ rfl rfl HO6.out (by rw [bcells_len]; have := HTL.out; omega) (by rw [HU.out]; exact HX.out.src HK6.out) (bcells_one _) (by have := HL1.out; have := HL2.out; have := HL3.out; omega) (by have := HL1.out; have := HL2.out; have := HL3.out; unfold maxLen; omega) (by omega) ?_
         intro A7 c7 w7 ho hg hw
         have HK7 := hid (HK6.out.app HO6.out hg (fun g h1 h2 => by omega))
         have HO7 := hid ho
         clear ho hg hw))
    go_ret
    refine ⟨A7, _, c7, rfl, by simp [hl1, HL2'.out, HL3'.out]; have := HTL.out; omega, ?_, HK7.out⟩
    rw [bcells_app, bcells_app, bcells_app]
    exact HO7.out.sl (fun g hg => by omega)
  · have hr' : rightP (En.pe ⟨t, k, A, m, c, y⟩) = false := by simpa using hr
    rw [hr'] at HV
    have e : encQ (En.pe ⟨t, k, A, m, c, y⟩) = [] := by unfold encQ; rw [hr']; rfl
    rw [e]
    clear hr hr' e
    go_enter Try.func32, Try.ntmps32
    go_wp2_with fail
    refine HV.out.mono ?_
    rintro e w1 ⟨rfl, hk1⟩
    go_wp2
    go_ret
    exact EncPost.nil (HK0.out.then hk1)
end Go.Proofs.Ytbellndcgagclaa

import Derived.Test.YtkkenfgpmoediaaCallB
import Derived.Test.YtkkenfgpmoediaaCallE
namespace Go.Proofs.Ytkkenfgpmoediaa
open Go.RowKit

/-! ## Marshal -/
structure OkL (s : CL) : Prop where
  call : i64ok s.call
  st : i64ok s.st
  since : i64ok s.since
  cen : i64ok s.cen
  ep : i64ok s.ep
  name : s.name.size ≤ 40
  ver : i64ok s.ver
  n : s.ans.length ≤ 200
  el : ∀ x ∈ s.ans, i64ok x
def encCL (s : CL) : List UInt8 := encI s.call ++ encI s.st ++ encI s.since ++ encI s.cen ++ encI s.ep ++ encD s.name.data.toList ++ encI s.ver ++ encL s.ans
def MarPost (w : World) (bs : List UInt8) (e : Ending) (w' : World) : Prop :=
  ∃ g, e = .returned (.slice (some ⟨g, 0, none⟩) bs.length bs.length) ∧ w.heap.size ≤ g ∧ Blk w' g 5 (bcells bs).toArray ∧ Same w w'
structure MS (w w1 : World) (wb : Nat) (r : Option Nat) (A : Option Addr) (c : Nat) (bs : List UInt8) : Prop where
  wr : Wr w1 wb r A c bs
  same : Same w w1
  r0 : ∀ g, r = some g → w.heap.size ≤ g
  wb0 : w.heap.size ≤ wb
theorem MS.next {w w1 w2 : World} {wb : Nat} {r r2 : Option Nat} {A A2 : Option Addr} {c c2 : Nat} {bs bs2 : List UInt8} (h : MS w w1 wb r A c bs) (hW : Wr w2 wb r2 A2 c2 bs2)
    (hK : Keep (fun i => i = wb ∨ some i = r) w1 w2) (hg : ∀ g, r2 = some g → r = some g ∨ w1.heap.size ≤ g) : MS w w2 wb r2 A2 c2 bs2 := by
  refine ⟨hW, h.same.trans hK (fun i hi hs => ?_), fun g e => ?_, h.wb0⟩
  · rcases hs with hs | hs
    · have := h.wb0; omega
    · have := h.r0 i hs.symm; omega
  · rcases hg g e with e | e
    · exact h.r0 g e
    · have := h.same.size; omega
theorem encD_le' {b : List UInt8} (h : b.length ≤ 1000000) : (encD b).length ≤ b.length + 10 := by
  have := encI_le (n := (b.length : Int)) ⟨by omega, by omega⟩
  simp only [encD, List.length_append]
  omega
theorem encL_le' {l : List Int} (h : l.length ≤ 1000000) (he : ∀ x ∈ l, i64ok x) : (encL l).length ≤ l.length * 10 + 10 := by
  have := encI_le (n := (l.length : Int)) ⟨by omega, by omega⟩
  have h2 := encIs_le l he
  simp only [encL, List.length_append]
  omega
theorem encCL_le {s : CL} (h : OkL s) : (encCL s).length ≤ 3000 := by
  have h1 := encI_le h.call
  have h2 := encI_le h.st
  have h3 := encI_le h.since
  have h4 := encI_le h.cen
  have h5 := encI_le h.ep
  have h6 := encI_le h.ver
  have hn := h.name
  have ha := h.n
  have e : s.name.data.toList.length = s.name.size := Array.length_toList
  have h7 := encD_le' (b := s.name.data.toList) (by omega)
  have h8 := encL_le' (l := s.ans) (by omega) h.el
  simp only [encCL, List.length_append]
  omega
set_option maxHeartbeats 8000000 in
set_option maxRecDepth 100000 in
theorem marshal_any (w : World) (lb : Nat) (r : Option Nat) (A : Option Addr) (c : Nat) (s : CL) (h : LineAt w lb r A c s) (hok : OkL s) : Calls Try.prog 12 #[.pointer (some ⟨lb, 0, none⟩)] w (MarPost w (encCL s)) := by
  have hlt := h.top.lt
  have HLE := hid (encCL_le hok)
  have HA := hid h
  have HEN := hid (show encCL s = ([] : List UInt8) ++ encI s.call ++ encI s.st ++ encI s.since ++ encI s.cen ++ encI s.ep ++ encD s.name.data.toList ++ encI s.ver ++ encL s.ans by simp [encCL])
  have hlen : (encI s.call).length + (encI s.st).length + (encI s.since).length + (encI s.cen).length + (encI s.ep).length + (encD s.name.data.toList).length + (encI s.ver).length + (encL s.ans).length ≤ 3000 := by
    have := encCL_le hok
    simp only [encCL, List.length_append] at this
    omega
  have HSL := hid h.sl
  obtain ⟨k1, k2, k3, k4, k5, k6, k7, k8, k9⟩ := hok
  obtain ⟨call, st, since, cen, ep, name, ver, ans⟩ := s
  simp only at k1 k2 k3 k4 k5 k6 k7 k8 k9 hlen
  have HEL := hid k9
  have HLN := hid hlen
  clear k9 h
  have HC0 : Hid (∀ W, Same w W → W.cell? ⟨lb, 0, none⟩ = some (.int .i64 call) ∧ W.cell? ⟨lb, 1, none⟩ = some (.int .i64 st) ∧ W.cell? ⟨lb, 2, none⟩ = some (.int .i64 since) ∧ W.cell? ⟨lb, 3, none⟩ = some (.int .i64 cen) ∧
    W.cell? ⟨lb, 4, none⟩ = some (.int .i64 ep) ∧ W.cell? ⟨lb, 5, none⟩ = some (.string name) ∧ W.cell? ⟨lb, 6, none⟩ = some (.int .i64 ver) ∧ W.cell? ⟨lb, 7, none⟩ = some (.slice A ans.length c)) := hid (fun W hk => (HA.out.same hk).cs)
  have HS0 : Hid (MS w (w.alloc (.cells #[.slice none 0 0] 57)) w.heap.size none none 0 []) :=
    hid ⟨⟨Blk.made w 57 #[.slice none 0 0], Own.nil _ 0 5 1, rfl, fun g e => by cases e⟩, (Keep.refl _ w).alloc _, fun g e => by (cases e), Nat.le_refl _⟩
  obtain ⟨c0, _, _, _, _, _, _, _⟩ := HC0.out _ HS0.out.same
  have HC := hid (wInt_any _ w.heap.size none none 0 [] HS0.out.wr (by simp) call k1.1 k1.2)
  clear hlen
  go_enter Try.func12, Try.ntmps12
  go_wp2_with fail
  refine HC.out.mono ?_
  rintro e w1 ⟨r1, A1, c1', rfl, hW1, hK1, hg1⟩
  have HS1 := hid (HS0.out.next hW1 hK1 hg1)
  obtain ⟨_, d1, _, _, _, _, _, _⟩ := HC0.out _ HS1.out.same
  have HCn := hid (wInt_any _ w.heap.size r1 A1 c1' _ hW1 (by have := HLN.out; simp only [List.length_append, List.length_nil]; omega) st k2.1 k2.2)
  clear HC
  have HC := HCn
  clear HCn hW1 hK1 hg1 HS0
  go_wp2_with fail
  refine HC.out.mono ?_
  rintro e w2 ⟨r2, A2, c2', rfl, hW2, hK2, hg2⟩
  have HS2 := hid (HS1.out.next hW2 hK2 hg2)
  obtain ⟨_, _, d2, _, _, _, _, _⟩ := HC0.out _ HS2.out.same
  have HCn := hid (wInt_any _ w.heap.size r2 A2 c2' _ hW2 (by have := HLN.out; simp only [List.length_append, List.length_nil]; omega) since k3.1 k3.2)
  clear HC
  have HC := HCn
  clear HCn hW2 hK2 hg2 HS1
  go_wp2_with fail
  refine HC.out.mono ?_
  rintro e w3 ⟨r3, A3, c3', rfl, hW3, hK3, hg3⟩
  have HS3 := hid (HS2.out.next hW3 hK3 hg3)
  obtain ⟨_, _, _, d3, _, _, _, _⟩ := HC0.out _ HS3.out.same
  have HCn := hid (wInt_any _ w.heap.size r3 A3 c3' _ hW3 (by have := HLN.out; simp only [List.length_append, List.length_nil]; omega) cen k4.1 k4.2)
  clear HC
  have HC := HCn
  clear HCn hW3 hK3 hg3 HS2
  go_wp2_with fail
  refine HC.out.mono ?_
  rintro e w4 ⟨r4, A4, c4', rfl, hW4, hK4, hg4⟩
  have HS4 := hid (HS3.out.next hW4 hK4 hg4)
  obtain ⟨_, _, _, _, d4, _, _, _⟩ := HC0.out _ HS4.out.same
  have HCn := hid (wInt_any _ w.heap.size r4 A4 c4' _ hW4 (by have := HLN.out; simp only [List.length_append, List.length_nil]; omega) ep k5.1 k5.2)
  clear HC
  have HC := HCn
  clear HCn hW4 hK4 hg4 HS3
  go_wp2_with fail
  refine HC.out.mono ?_
  rintro e w5 ⟨r5, A5, c5', rfl, hW5, hK5, hg5⟩
  have HS5 := hid (HS4.out.next hW5 hK5 hg5)
  obtain ⟨_, _, _, _, _, d5, _, _⟩ := HC0.out _ HS5.out.same
  have HCn := hid (wString_any _ w.heap.size r5 A5 c5' _ hW5 (by have := HLN.out; simp only [List.length_append, List.length_nil]; omega) name (by omega))
  clear HC
  have HC := HCn
  clear HCn hW5 hK5 hg5 HS4
  go_wp2_with fail
  refine HC.out.mono ?_
  rintro e w6 ⟨r6, A6, c6', rfl, hW6, hK6, hg6⟩
  have HS6 := hid (HS5.out.next hW6 hK6 hg6)
  obtain ⟨_, _, _, _, _, _, d6, _⟩ := HC0.out _ HS6.out.same
  have HCn := hid (wInt_any _ w.heap.size r6 A6 c6' _ hW6 (by have := HLN.out; simp only [List.length_append, List.length_nil]; omega) ver k7.1 k7.2)
  clear HC
  have HC := HCn
  clear HCn hW6 hK6 hg6 HS5
  go_wp2_with fail
  refine HC.out.mono ?_
  rintro e w7 ⟨r7, A7, c7', rfl, hW7, hK7, hg7⟩
  have HS7 := hid (HS6.out.next hW7 hK7 hg7)
  obtain ⟨_, _, _, _, _, _, _, d7⟩ := HC0.out _ HS7.out.same
  have HCn := hid (wInts_any _ w.heap.size r7 A7 c7' _ hW7 (by have := HLN.out; simp only [List.length_append, List.length_nil]; omega) A ans.length c ans (((HSL.out.wide (Av' := fun _ => False) (fun _ _ f => f.elim)).old.same HS7.out.same).wide (fun i _ hs => by rcases hs with rfl | hs; exact Nat.le_refl _; exact HS7.out.r0 i hs.symm)) (by omega) HEL.out)
  clear HC
  have HC := HCn
  clear HCn hW7 hK7 hg7 HS6
  go_wp2_with fail
  refine HC.out.mono ?_
  rintro e w8 ⟨r8, A8, c8', rfl, hW8, hK8, hg8⟩
  have HS8 := hid (HS7.out.next hW8 hK8 hg8)
  have HCn := hid (encoded_any _ w.heap.size r8 A8 c8' _ hW8 (by have := HLN.out; simp only [List.length_append, List.length_nil]; omega))
  clear HC
  have HC := HCn
  clear HCn hW8 hK8 hg8 HS7

  rw [← HEN.out] at HC
  go_wp2_with fail
  refine HC.out.mono ?_
  rintro e w9 ⟨rfl, hB9, hK9⟩
  have hz := HS8.out.same.size
  have HK9 := hid (HS8.out.same.then hK9)
  have HB9 := hid hB9
  clear hB9 hK9
  go_wp2
  go_ret
  exact ⟨_, rfl, hz, HB9.out, HK9.out⟩
end Go.Proofs.Ytkkenfgpmoediaa

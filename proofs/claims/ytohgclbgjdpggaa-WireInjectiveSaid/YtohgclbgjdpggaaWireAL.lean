import Derived.Test.YtohgclbgjdpggaaWireT
namespace Go.Proofs.Ytohgclbgjdpggaa
open Go.RowKit

/-! ## All -/
def PAllI (w1 : World) (base : Nat) (l : List Tg) (k : Nat) (o : Value) (wr : World) : Prop :=
  ∃ (A : Option Addr) (c m : Nat), o = .slice A m c ∧ (putAll (l.take k)).length = m ∧ Own wr base 5 1 (.slice A m c) m (bcells (putAll (l.take k))) ∧ Same w1 wr
set_option maxHeartbeats 4000000 in
theorem pall_any (w : World) (Av : Nat → Prop) (B : Option Addr) (m d : Nat) (xs : List Tm) (h : Ts w Av B m xs) (hm : m ≤ 1000) (hall : (putAll (xs.map Tm.pt)).length ≤ 10000000) :
    Calls Try.prog 22 #[.slice B m d] w (OwnPost w (putAll (xs.map Tm.pt))) := by
  have H := hid h.old
  have hlen := hid h.len
  have HI : Hid (PAllI w w.heap.size (xs.map Tm.pt) 0 (.slice (some ⟨w.heap.size, 0, none⟩) 0 0) (w.alloc (.cells #[] 5))) := hid
    ⟨_, 0, 0, rfl, by simp [putAll], by simpa [putAll, bcells] using Own.lit0 w 5 1, (Keep.refl _ w).alloc _⟩
  have hbound : ∀ k, (putAll ((xs.map Tm.pt).take k)).length ≤ 10000000 := fun k => by
    refine Nat.le_trans ?_ hall
    conv => rhs; rw [← List.take_append_drop k (xs.map Tm.pt), putAll, List.flatMap_append]
    simp [putAll]
  have HBD := hid hbound
  clear h hall hbound
  go_enter Try.func22, Try.ntmps22
  go_wp2
  go_loopw [3, 4] (fun o i wr => ∃ k : Nat, k ≤ m ∧ i = .int .i64 k ∧ PAllI w w.heap.size (xs.map Tm.pt) k o wr) (fun _ i _ => m - (RowKit.intOf i).toNat)
  case atStart => exact ⟨0, by omega, rfl, HI.out⟩
  case round =>
    obtain ⟨k, hkm, rfl, A3, c3, m3, rfl, hl3, hO, hK⟩ := hrel
    have HL3 := hid hl3
    have HO := hid hO
    have HK3 := hid hK
    have hm3 : m3 ≤ 10000000 := by have := HBD.out k; omega
    by_cases hlt : k < m
    · obtain ⟨x, hx⟩ := get_some (l := xs) (k := k) (by have := hlen.out; omega)
      have hT := H.out.same hK
      obtain ⟨b, off, rfl, hb, q0, q1, q2, q3, q4⟩ := hT.at5 hx
      have hxm := List.mem_of_getElem? hx
      have hpx : (xs.map Tm.pt)[k]? = some x.pt := by simp [hx]
      have HC := hid (put_any wr _ x (hT.el x hxm) (hT.ok x hxm))
      have HN := hid (show putAll ((xs.map Tm.pt).take (k + 1)) = putAll ((xs.map Tm.pt).take k) ++ putT x.pt by rw [take_snoc hpx]; exact putAll_snoc _ _)
      have hpl : m3 + (putT x.pt).length ≤ 10000000 := by
        have := HBD.out (k + 1)
        rw [HN.out, List.length_append] at this; omega
      clear hx hT hxm hpx hl3 hO hK
      generalize x.pt = t at *
      obtain ⟨kk, n, bo, st, C, cm, cc, l⟩ := x
      simp only [Tm.cells] at q0 q1 q2 q3 q4 HC
      go_wp2_with fail
      refine HC.out.mono ?_
      rintro e w4 ⟨A4, c4, rfl, g1, g2⟩
      have HO4 := hid (HO.out.keep g2 (fun _ _ _ f => f))
      have HSR := hid ((g1.sl (Av := fun _ => False) (fun _ _ f => f)).src (Keep.refl _ w4))
      have HK4 := hid (HK3.out.then g2)
      have hz4 := HK4.out.size
      generalize hyl : (putT t).length = yl at *
      have HYL := hid hyl
      clear g1 g2 hyl HC
      go_wp2_with (
        at_builtin
        refine EBy.law2 (.tmp 12) (.tmp 17) (.slice A3 m3 c3) A4 yl c4 rfl rfl rfl rfl w.heap.size m3 _ (bcells (putT t)) (m3 + yl) _ rfl rfl HO4.out (by rw [bcells_len, HYL.out]; omega) HSR.out (bcells_one _) (by omega) (by unfold maxLen; omega) hz4 ?_
        intro A' c' w5 ho hg hw
        have hkk := HK4.out.app HO4.out hg (fun g h1 h2 => by omega)
        have HO5 := hid ho
        have HK5 := hid hkk
        clear ho hg hw hkk)
      go_roundw
      case rel => exact ⟨k + 1, by omega, by go_num, A', c', m3 + yl, rfl, by rw [HN.out, List.length_append, HL3.out, HYL.out], by rw [HN.out, bcells_app]; exact HO5.out, HK5.out⟩
      case measure => simp [RowKit.intOf]; omega
    · have e1 : (xs.map Tm.pt).take k = xs.map Tm.pt := List.take_of_length_le (by have := hlen.out; simp; omega)
      rw [e1] at hO hl3
      have HO := hid hO
      have HL3 := hid hl3
      clear hl3 hO hK e1
      go_wp2
      go_ret
      refine ⟨A3, c3, by rw [HL3.out]; rfl, ?_, HK3.out⟩
      rw [HL3.out]
      exact HO.out
end Go.Proofs.Ytohgclbgjdpggaa

import Derived.Test.YtmkcphhgimlkgaaConfG
import Derived.Deep.Cut
namespace Go.Proofs.Ytmkcphhgimlkgaa
open Go.RowKit Go.PlainAid

/-! ## Great -/
section
variable (w : World)
def GreatPost (w : World) (c : CF) (e : Ending) (w' : World) : Prop := ∃ b : Bool, e = .returned (.bool b) ∧ (b = false → c.dis.length ≤ 60 ∧ c.edg.length ≤ 60 ∧ c.uni.length ≤ 60 ∧ c.pla.length ≤ 70) ∧ Same w w'
def Few (c : CF) : Prop := ∀ p ∈ c.pla, p.code.size ≤ 140737488355328 ∧ p.kinds.length ≤ 140737488355328
set_option maxRecDepth 100000 in
set_option maxHeartbeats 8000000 in
theorem great_any (c : CF) (hm : CM w c) (hf : Few c) : Calls Try.prog 29 #[.agg c.cells.toArray] w (GreatPost w c) := by
  have hb0 := Blk.made w 27 c.cells.toArray
  have hw0 := (Keep.refl (fun _ => False) w).alloc (.cells c.cells.toArray 27)
  have HB := hid (fun W (hk : Same (w.alloc (.cells c.cells.toArray 27)) W) => cfc (hb0.keep (S := fun _ => False) hk (fun f => f)))
  have HW := hid hw0
  have HM := hid (fun W (hk : Same w W) => (hm.same hk).pla)
  have HF := hid hf
  have HL := hid hm.lP
  have hb1 := cfc hb0
  clear hb0 hw0 hm hf
  obtain ⟨cen, D, cD, dis, E, cE, edg, U, cU, uni, P, cP, pla, h0, h1, h2, h3, h4, h5, h6, h7, h8, h9⟩ := c
  obtain ⟨c0, c1, c2, c3, c4, c5, c6, c7, c8, c9, c10, c11, c12, c13, c14, hg⟩ := hb1
  simp only [CF.cells] at *
  go_enter Try.func29, Try.ntmps29
  go_wp2_with fail
  generalize w.alloc (.cells #[.int .i64 cen, .slice D dis.length cD, .slice E edg.length cE, .slice U uni.length cU, .slice P pla.length cP, .int .i64 h0, .int .i64 h1, .int .i64 h2, .int .i64 h3, .int .i64 h4, .int .i64 h5, .int .i64 h6, .int .i64 h7, .int .i64 h8, .int .i64 h9] 27) = w1 at *
  go_loopw [3, 9] (fun n i wr => ∃ (k : Nat) (N : Int), k ≤ pla.length ∧ i = .int .i64 k ∧ n = .int .i64 N ∧ 0 ≤ N ∧ N ≤ 4000 ∧ Hid (Same w1 wr)) (fun _ i _ => pla.length - (RowKit.intOf i).toNat)
  case atStart => exact ⟨0, 0, by omega, rfl, rfl, by omega, by omega, hid (Keep.refl _ _)⟩
  case round =>
    obtain ⟨k, N, hk, rfl, rfl, hN0, hN1, HI⟩ := hrel
    by_cases hlt : k < pla.length
    · obtain ⟨a, ha⟩ := get_some (l := pla) (k := k) hlt
      obtain ⟨b, off, rfl, hb3, q0, q1, q2⟩ := pl_at (HM.out wr (HW.out.then HI.out)) ha
      obtain ⟨hf1, hf2⟩ := HF.out a (List.mem_of_getElem? ha)
      obtain ⟨code, urg, K, cc, kinds⟩ := a
      simp only at q0 q1 q2 hf1 hf2
      have hk1 : (k : Int) < (pla.length : Int) := by omega
      clear ha c0 c1 c2 c3 c4 c5 c6 c7 c8 c9 c10 c11 c12 c13 c14 hg
      by_cases hh4 : 4000 < N + (code.size : Int) + (kinds.length : Int)
      · go_wp2_with fail
        go_ret
        exact ⟨true, rfl, fun h => (by cases h), HW.out.then (HI.out.alloc _)⟩
      · go_upto_region 8 with fail
        have hk2 : (k : Int) + 1 ≤ 9223372036854775807 := by have := HL.out; unfold maxLen at this; omega
        go_wp2_with fail
        go_roundw
        case rel => exact ⟨k + 1, N + (code.size : Int) + (kinds.length : Int), by omega, by go_num, by first | rfl | trivial, by omega, by omega, hid (HI.out.alloc _)⟩
        case measure => simp [RowKit.intOf]; omega
    · have hk1 : (pla.length : Int) ≤ (k : Int) := by omega
      clear c0 c1 c2 c3 c4 c5 c6 c7 c8 c9 c10 c11 c12 c13 c14 hg
      obtain ⟨c0, c1, c2, c3, c4, c5, c6, c7, c8, c9, c10, c11, c12, c13, c14, hg⟩ := HB.out wr HI.out
      simp only at c0 c1 c2 c3 c4 c5 c6 c7 c8 c9 c10 c11 c12 c13 c14
      clear c0 c5 c6 c7 c8 c9 c10 c11 c12 c13 c14 hlt hk hN0 hN1
      by_cases g1 : 60 < (dis.length : Int)
      · go_wp2_with fail
        go_ret
        exact ⟨true, by first | rfl | simp, fun h => (by cases h), HW.out.then HI.out⟩
      · by_cases g2 : 60 < (edg.length : Int)
        · go_wp2_with fail
          go_ret
          exact ⟨true, by first | rfl | simp, fun h => (by cases h), HW.out.then HI.out⟩
        · by_cases g3 : 60 < (uni.length : Int)
          · go_wp2_with fail
            go_ret
            exact ⟨true, by first | rfl | simp, fun h => (by cases h), HW.out.then HI.out⟩
          · by_cases g4 : 70 < (pla.length : Int)
            · go_wp2_with fail
              go_ret
              exact ⟨true, by first | rfl | simp, fun h => (by cases h), HW.out.then HI.out⟩
            · go_wp2_with fail
              go_ret
              exact ⟨false, by first | rfl | simp, fun _ => ⟨show dis.length ≤ 60 by omega, show edg.length ≤ 60 by omega, show uni.length ≤ 60 by omega, show pla.length ≤ 70 by omega⟩, HW.out.then HI.out⟩
end
end Go.Proofs.Ytmkcphhgimlkgaa

import Derived.Test.YtnejacmmbfeneaaDoorNsF
import Derived.Test.YtnejacmmbfeneaaDoorOpenR
import Derived.LaidMore
import Derived.OpenShut
import Derived.Stop.Joined
import Derived.ProofKit
namespace Go.Proofs.YtnejacmmbfeneaaDoor
open Go.ChangeShapes Go.WideShapes Go.ChangeAt Go.RowKit Go.Deep

/-! ## The table that the row lays -/
def laidTb {H : Type} : List (String × DataW H) := [("math/bits.deBruijn64tab", Rows.laid_math_bits_deBruijn64tab)]
theorem gTab : Tryd.prog.globalNamed "math/bits.deBruijn64tab" = some 0 := by kernel_rfl
theorem tTab : (Tryd.prog.globals[0]?).map (·.type) = some 90 := by kernel_rfl
theorem tab_lits {H : Type} : (Rows.laid_math_bits_deBruijn64tab : DataW H) = .agg (Lib.deBruijn64tab.map (fun n => .lit (.int .u8 (n : Nat)))) := rfl
theorem tb_met (os : Os) (args : Array Value) : laidMetH Tryd.prog laidTb ((World.doorLaid Tryd.prog 400 os).forCall (fun _ _ => 0) ⟨#[], args, []⟩).memory :=
  laidMetH_of_parts3 (fuel := 8) (laidMet_of_run' 8 (by kernel_rfl) (by kernel_rfl)) (by kernel_rfl) (by kernel_rfl)
theorem of_laid {W : World} (h : laidMetH Tryd.prog laidTb W) : Tab W ∧ 0 < W.heap.size := by
  rw [MakeChecks.laidMetH_plain _ _ _ (by kernel_rfl)] at h
  obtain ⟨ps, ⟨g0, t0, cs0, f0, p0, q0, hg0, ht0, hv0, hd0, _, _⟩, _, _⟩ := h
  obtain rfl := Option.some.inj (gTab.symm.trans hg0)
  obtain rfl := Option.some.inj (tTab.symm.trans ht0)
  obtain ⟨xs, m1, _, hx, hlen, hn3, hel⟩ := DataW.trod_array Tryd.underlying90 hd0
  have c1 : Tryd.prog.cellsOf 5 = 1 := by kernel_rfl
  have hT : Tab W := by
    intro i hi
    have h0 := hel i (by omega)
    rw [c1, Nat.mul_one] at h0
    obtain ⟨x, hxi⟩ := get_some (l := xs) (k := i) (by omega)
    rw [hxi] at h0
    obtain ⟨k, e1, e2, _⟩ := DataW.trod_int Tryd.underlying5 h0
    simp only [tab_lits, Prod.mk.injEq, DataW.agg.injEq] at hx
    have h2 : (xs.map (·.1))[i]? = some (.lit (.int .u8 k)) := by rw [List.getElem?_map, hxi]; simp [e2]
    have hl64 : Lib.deBruijn64tab.length = 64 := by decide
    rw [← hx.1, List.getElem?_map, List.getElem?_eq_getElem (by omega)] at h2
    have hk : k = ((Lib.deBruijn64tab.getD i 0 : Nat) : Int) := by
      rw [List.getD_eq_getElem?_getD, List.getElem?_eq_getElem (by omega)]
      simp at h2
      simpa using h2.symm
    have h3 : cs0.toList[i]? = some (.int .u8 k) := at_of_take e1
    have := World.var?_cell hg0 hv0 i
    rw [← hk, this]
    simpa using h3
  exact ⟨hT, (lt_of_cell (hT 0 (by decide))).1⟩
end Go.Proofs.YtnejacmmbfeneaaDoor

import Derived.Deep.MidRow
import Derived.Deep.RegionHeld3
import Derived.Test.YtmllpapkgfclkaaGen
namespace Go.Proofs.Ytmllpapkgfclkaa
open Go.RowKit

/-! ## Drawn regions: what is held turns midway; one rest for all orders; a struct's load out of the midst of a row -/
theorem held_weaken {P : Program} {md : Region.Mode} {ops : Array Oper} {Q : Exit → Act → World → Prop} {S S2 : World → Prop} (hS : ∀ W, S2 W → S W) : ∀ (fuel : Nat) (listed : Array Bool) (a : Act) (w : World), wpAnyH P md ops Q S2 fuel listed a w → wpAnyH P md ops Q S fuel listed a w
  | 0, _, _, _, h => h
  | fuel + 1, _, _, _, h => ⟨h.1, fun i hi => wpOp_mono (fun a' w' h' => ⟨hS _ h'.1, held_weaken hS fuel _ a' w' h'.2⟩) (h.2 i hi)⟩
theorem one_rest {F G : Nat → Nat → World → Prop} {goal : Prop} (main : (∀ g h W, F g h W → G g h W) → goal) (rest : ∀ g h W, F g h W → G g h W) : goal := main rest
theorem takeM {P : Program} {md : Region.Mode} {ops : Array Oper} {Q : Exit → Act → World → Prop} {S : World → Prop} {i : Nat} {oi : Oper} {fuel : Nat} {listed : Array Bool} {a : Act} {w : World}
    (hs : Region.noSelect ops = true) (hf : Region.free md ops listed i = true) (hr : (Region.ready md ops listed).contains i = true) (hQ : ∀ c a d v w, Q (.panic c) (Act.put a d v) w → Q (.panic c) a w) (hi : ops[i]? = some oi)
    (ty : TypeId) (x : Operand) (hg : oi.guard = none) (ho : oi.op = .load ty x) (b o : Nat) (hx : a.eval x = .pointer (some ⟨b, o, none⟩)) (cs : List Value) (d : TypeDesc) (hh : ∀ W, S W → W.rangeAt b o cs)
    (hu : P.underlying ty = some d) (hd : d.isRow = true) (hz : (P.info? ty).map (·.size) = some cs.length) (hS : S w)
    (h : wpAnyH P md ops Q S fuel (listed.setIfInBounds i true) (a.put oi.dst (.agg cs.toArray)) w) : wpAnyH P md ops Q S (fuel + 1) listed a w :=
  wpAnyH_take hi hs hf hr (fun c a w h => hQ c a _ _ w h) (yieldsIf_load_mid (by simp [Region.wanted, hg]) ty x ho b o hx cs d hh hu hd hz) hS h
theorem range_same {w W : World} {b o : Nat} {cs : List Value} (h : w.rangeAt b o cs) (hk : Same w W) : W.rangeAt b o cs := fun j v hv => by
  have h1 := h j v hv
  have hlt : b < w.heap.size := by
    cases hb : w.heap[b]? with
    | none => unfold World.cell? at h1; rw [hb] at h1; cases h1
    | some _ => exact (Array.getElem?_eq_some_iff.1 hb).1
  rw [hk.cell hlt (fun f => f)]; exact h1
end Go.Proofs.Ytmllpapkgfclkaa

import Derived.Test.YtmkcphhgimlkgaaOpenCd
namespace Go.Proofs.Ytmkcphhgimlkgaa
open Go.ChangeShapes Go.WideShapes Go.ChangeAt Go.RowKit Go.Deep

/-! ## Suspects that came in -/
section
variable {H : Type} {enc : TypeId × Value → H} {w : World}
set_option maxRecDepth 100000 in
theorem open_susp {v : Value} {d : DataW H} {p : List MemPlace} {r : Reach} {b0 : Nat} (hfit : Fits Try.prog 22 d) (hv : Value.okWide Try.prog w r b0 22 v) (h : DataW.Trod enc Try.prog w 0 (fun _ => true) true 22 v d p) :
    ∃ (Q : Option Addr) (cq : Nat) (S : List Int), v = .slice Q S.length cq ∧ Sl w (fun _ => False) 1 Q S.length (icellsC S) ∧ S.length ≤ maxLen ∧ ∀ s ∈ S, (Lit.int .i64 s).wf = true := by
  obtain ⟨A, q, c, l, h1, h2, h3, hG, h5, h6, h7⟩ := open_slR (f := fun a => [Value.int .i64 a]) (G := fun a => (Lit.int .i64 a).wf = true) Try.underlying22 (by kernel_rfl) (by decide) (fun _ => rfl) hfit (fun n cs x h _ => by
    obtain ⟨a, ha, _, hw⟩ := DataW.trod_int Try.underlying3 h
    exact ⟨a, ha, hw⟩) hv h
  subst h2
  rw [ints_flat] at h3
  exact ⟨A, c, l, h1, h3, by omega, hG⟩
end
end Go.Proofs.Ytmkcphhgimlkgaa

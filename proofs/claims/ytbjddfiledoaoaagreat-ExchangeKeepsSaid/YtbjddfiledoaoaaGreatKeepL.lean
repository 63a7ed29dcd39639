/- No call and no answer is lost, each call has an owner, whose epochs only increase, and what is closed stays closed, as ExchangeKeeps asks: for every operations; no condition. -/
import Derived.Test.YtbjddfiledoaoaaGreatGen
import Derived.Test.YtbjddfiledoaoaaGreatYO
import Derived.Test.YtbjddfiledoaoaaGreatZJ
namespace Go.Proofs.YtbjddfiledoaoaaGreat
open Go.ChangeShapes Go.WideShapes Go.ChangeAt Go.RowKit

set_option maxRecDepth 100000 in
theorem exchangeKeeps_lifted (os : Os) (started : os.Started) (H : Type) (enc : TypeId × Value → H) :
    ReturnsInHanded {} Tryz.checked os 6 .any (Rows.exchangeKeepsSpec.pre6 enc Tryz.prog Tryz.f6 Rows.exchangeKeepsRow.domain false) (Rows.exchangeKeepsSpec.post enc Tryz.prog Tryz.f6 false true false false) := by
  refine returnsInHanded_of_change_sized (C := Tryz.checked) Tryz.own started (by kernel_rfl) Tryz.func6
    (ChangeSpec.witness6 (enc := enc) (C := Tryz.checked) false ⟨#[], #[.slice none 0 0], []⟩ 8 (by kernel_rfl) (by kernel_rfl) (by kernel_rfl) (by kernel_rfl)) ?_
  intro W base args ds gs before hval0 hW hcnd hsz0 _
  have hval : ∀ (j : Nat) t v, Tryz.f6.params[j]? = some t → args[j]? = some v → Value.okWide Tryz.prog W .any base t v := hval0
  have hW' := hW
  obtain ⟨p, q, hA0, hV, rfl, hfz, hnd⟩ := hW
  have hA : DataW.TrodAll enc Tryz.prog W 0 (fun _ => true) true Tryz.f6.params.toList args.toList ds p := hA0
  rw [Tryz.params6] at hA hval
  obtain ⟨v0, vs0, d0, ds0, p0, q0, hargs, rfl, rfl, h0, r0⟩ := trodAll_cons hA
  obtain ⟨rfl, rfl, rfl⟩ := trodAll_nil r0
  obtain rfl : args = #[v0] := by cases args; simp_all
  obtain ⟨rfl, rfl⟩ := trodVars_none hV
  obtain ⟨B0, cb0, l0, rfl, hL0, hn0⟩ := open_ats (fits_of hsz0 (j := 0) rfl rfl) (hval 0 28 v0 rfl rfl) h0
  refine (keeps_walk W B0 cb0 l0 hL0 hn0).mono fun e W' ⟨he, hs⟩ => ?_
  subst he
  exact ⟨_, rfl, law_post Tryz.laid (by kernel_rfl) rfl rfl Tryz.underlying4 rfl hW' hs⟩

/-- The statement. -/
theorem exchangeKeeps_holds : Rows.ExchangeKeepsSaid :=
  OpenClaim.holds_of_wide 6 Tryz.f6 rfl rfl rfl rfl rfl rfl rfl ⟨rfl, rfl, rfl, rfl, rfl⟩ rfl rfl rfl rfl rfl (by kernel_rfl) Tryz.func6 (by kernel_rfl)
    (of_decide_eq_true (by kernel_rfl)) (by unfold Func.isWrapper; first | (rw [if_pos (by decide +kernel)]; kernel_rfl) | (rw [if_neg (by decide +kernel)]; exact ⟨rfl, rfl⟩))
    (fun os started H enc _ => exchangeKeeps_lifted os started H enc)
#print axioms exchangeKeeps_holds
end Go.Proofs.YtbjddfiledoaoaaGreat

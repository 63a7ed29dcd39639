/- Two sequences of values of the same kinds have equal encodings exactly if the values are equal, as WireInjective asks: for every two slices of values; no condition. -/
import Derived.Test.YtohgclbgjdpggaaEnd
import Derived.Test.YtohgclbgjdpggaaOpenT
import Derived.Test.YtohgclbgjdpggaaWireIJ
namespace Go.Proofs.Ytohgclbgjdpggaa
open Go.ChangeShapes Go.WideShapes Go.ChangeAt Go.RowKit

set_option maxRecDepth 100000 in
theorem wireInjective_lifted (os : Os) (started : os.Started) (H : Type) (enc : TypeId × Value → H) :
    ReturnsInHanded {} Try.checked os 8 .any (Rows.wireInjectiveSpec.pre6 enc Try.prog Try.f8 Rows.wireInjectiveRow.domain false) (Rows.wireInjectiveSpec.post enc Try.prog Try.f8 false true false false) := by
  refine returnsInHanded_of_change_sized (C := Try.checked) Try.own started (by kernel_rfl) Try.func8
    (ChangeSpec.witness6 (enc := enc) (C := Try.checked) false ⟨#[], #[.slice none 0 0, .slice none 0 0], []⟩ 8 (by kernel_rfl) (by kernel_rfl) (by kernel_rfl) (by kernel_rfl)) ?_
  intro W base args ds gs before hval0 hW hcnd hsz0 _
  have hval : ∀ (j : Nat) t v, Try.f8.params[j]? = some t → args[j]? = some v → Value.okWide Try.prog W .any base t v := hval0
  have hW' := hW
  obtain ⟨p, q, hA0, hV, rfl, hfz, hnd⟩ := hW
  have hA : DataW.TrodAll enc Try.prog W 0 (fun _ => true) true Try.f8.params.toList args.toList ds p := hA0
  rw [Try.params8] at hA hval
  obtain ⟨v0, vs0, d0, ds0, p0, q0, hargs, rfl, rfl, h0, r0⟩ := trodAll_cons hA
  obtain ⟨v1, vs1, d1, ds1, p1, q1, rfl, rfl, rfl, h1, r1⟩ := trodAll_cons r0
  obtain ⟨rfl, rfl, rfl⟩ := trodAll_nil r1
  obtain rfl : args = #[v0, v1] := by cases args; simp_all
  obtain ⟨rfl, rfl⟩ := trodVars_none hV
  obtain ⟨A0, n0, c0, l0, rfl, hT0, hm0⟩ := open_things (fits_of hsz0 (j := 0) rfl rfl) (hval 0 38 v0 rfl rfl) h0
  obtain ⟨A1, n1, c1, l1, rfl, hT1, hm1⟩ := open_things (fits_of hsz0 (j := 1) rfl rfl) (hval 1 38 v1 rfl rfl) h1
  refine (wireInjective_walk W A0 n0 c0 l0 hT0 hm0 A1 n1 c1 l1 hT1 hm1).mono fun e W' ⟨he, hs⟩ => ?_
  subst he
  exact ⟨_, rfl, law_post Try.laid (by kernel_rfl) rfl rfl Try.underlying4 rfl hW' hs⟩

/-- The statement. -/
theorem wireInjective_holds : Rows.WireInjectiveSaid :=
  OpenClaim.holds_of_wide 8 Try.f8 rfl rfl rfl rfl rfl rfl rfl ⟨rfl, rfl, rfl, rfl, rfl⟩ rfl rfl rfl rfl rfl (by kernel_rfl) Try.func8 (by kernel_rfl)
    (of_decide_eq_true (by kernel_rfl)) (by unfold Func.isWrapper; first | (rw [if_pos (by decide +kernel)]; kernel_rfl) | (rw [if_neg (by decide +kernel)]; exact ⟨rfl, rfl⟩))
    (fun os started H enc _ => wireInjective_lifted os started H enc)
#print axioms wireInjective_holds
end Go.Proofs.Ytohgclbgjdpggaa

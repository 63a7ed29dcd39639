/- After all leases have expired each district is proposed by exactly one of the centres that are not suspected, as DistrictSuccessor asks: for every configuration and suspects; no condition. -/
import Derived.Test.YtmkcphhgimlkgaaEnd
import Derived.Test.YtmkcphhgimlkgaaOpenCd
import Derived.Test.YtmkcphhgimlkgaaOpenSu
import Derived.Test.YtmkcphhgimlkgaaDuL
namespace Go.Proofs.Ytmkcphhgimlkgaa
open Go.ChangeShapes Go.WideShapes Go.ChangeAt Go.RowKit

set_option maxRecDepth 100000 in
theorem districtSuccessor_lifted (os : Os) (started : os.Started) (H : Type) (enc : TypeId × Value → H) :
    ReturnsInHanded {} Try.checked os 6 .any (Rows.districtSuccessorSpec.pre6 enc Try.prog Try.f6 Rows.districtSuccessorRow.domain false) (Rows.districtSuccessorSpec.post enc Try.prog Try.f6 false true false false) := by
  refine returnsInHanded_of_change_sized (C := Try.checked) Try.own started (by kernel_rfl) Try.func6
    (ChangeSpec.witness6 (enc := enc) (C := Try.checked) false ⟨#[], #[.agg #[.int .i64 0, .slice none 0 0, .slice none 0 0, .slice none 0 0, .slice none 0 0, .int .i64 0, .int .i64 0, .int .i64 0, .int .i64 0, .int .i64 0, .int .i64 0, .int .i64 0, .int .i64 0, .int .i64 0, .int .i64 0], .slice none 0 0], []⟩ 8 (by kernel_rfl) (by kernel_rfl) (by kernel_rfl) (by kernel_rfl)) ?_
  intro W base args ds gs before hval0 hW hcnd hsz0 _
  have hval : ∀ (j : Nat) t v, Try.f6.params[j]? = some t → args[j]? = some v → Value.okWide Try.prog W .any base t v := hval0
  have hW' := hW
  obtain ⟨p, q, hA0, hV, rfl, hfz, hnd⟩ := hW
  have hA : DataW.TrodAll enc Try.prog W 0 (fun _ => true) true Try.f6.params.toList args.toList ds p := hA0
  rw [Try.params6] at hA hval
  obtain ⟨v0, vs0, d0, ds0, p0, q0, hargs, rfl, rfl, h0, r0⟩ := trodAll_cons hA
  obtain ⟨v1, vs1, d1, ds1, p1, q1, rfl, rfl, rfl, h1, r1⟩ := trodAll_cons r0
  obtain ⟨rfl, rfl, rfl⟩ := trodAll_nil r1
  obtain rfl : args = #[v0, v1] := by cases args; simp_all
  obtain ⟨rfl, rfl⟩ := trodVars_none hV
  obtain ⟨c0, rfl, hC0, hF0⟩ := open_cf (fits_of hsz0 (j := 0) rfl rfl) (hval 0 27 v0 rfl rfl) h0
  obtain ⟨Q1, cq1, S1, rfl, hS1, hSn1, hSw1⟩ := open_susp (fits_of hsz0 (j := 1) rfl rfl) (hval 1 22 v1 rfl rfl) h1
  refine (successor_walk W c0 hC0 hF0 Q1 cq1 S1 hS1 hSn1 hSw1).mono fun e W' ⟨he, hs⟩ => ?_
  subst he
  exact ⟨_, rfl, law_post Try.laid (by kernel_rfl) rfl rfl Try.underlying4 rfl hW' hs⟩

/-- The statement. -/
theorem districtSuccessor_holds : Rows.DistrictSuccessorSaid :=
  OpenClaim.holds_of_wide 6 Try.f6 rfl rfl rfl rfl rfl rfl rfl ⟨rfl, rfl, rfl, rfl, rfl⟩ rfl rfl rfl rfl rfl (by kernel_rfl) Try.func6 (by kernel_rfl)
    (of_decide_eq_true (by kernel_rfl)) (by unfold Func.isWrapper; first | (rw [if_pos (by decide +kernel)]; kernel_rfl) | (rw [if_neg (by decide +kernel)]; exact ⟨rfl, rfl⟩))
    (fun os started H enc _ => districtSuccessor_lifted os started H enc)
#print axioms districtSuccessor_holds
end Go.Proofs.Ytmkcphhgimlkgaa

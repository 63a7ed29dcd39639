/- Modifying slices that were passed in or returned does not change the log, as RaftlogNoAliasing asks: for every body; no condition. -/
import Derived.Test.YtbellndcgagclaaEnd
import Derived.Test.YtbellndcgagclaaOpen
import Derived.Test.YtbellndcgagclaaOpenE
import Derived.Test.YtbellndcgagclaaNoAlias
namespace Go.Proofs.Ytbellndcgagclaa
open Go.ChangeShapes Go.WideShapes Go.ChangeAt Go.RowKit

set_option maxRecDepth 100000 in
theorem raftlogNoAliasing_lifted (os : Os) (started : os.Started) (H : Type) (enc : TypeId × Value → H) :
    ReturnsInHanded {} Try.checked os 8 .any (Rows.raftlogNoAliasingSpec.pre6 enc Try.prog Try.f8 Rows.raftlogNoAliasingRow.domain false) (Rows.raftlogNoAliasingSpec.post enc Try.prog Try.f8 false true false false) := by
  refine returnsInHanded_of_change_sized (C := Try.checked) Try.own started (by kernel_rfl) Try.func8
    (ChangeSpec.witness6 (enc := enc) (C := Try.checked) false ⟨#[], #[.slice none 0 0], []⟩ 8 (by kernel_rfl) (by kernel_rfl) (by kernel_rfl) (by kernel_rfl)) ?_
  intro W base args ds gs before hval0 hW hcnd hsz0 _
  have hval : ∀ (j : Nat) t v, Try.f8.params[j]? = some t → args[j]? = some v → Value.okWide Try.prog W .any base t v := hval0
  have hW' := hW
  obtain ⟨p, q, hA0, hV, rfl, hfz, hnd⟩ := hW
  have hA : DataW.TrodAll enc Try.prog W 0 (fun _ => true) true Try.f8.params.toList args.toList ds p := hA0
  rw [Try.params8] at hA hval
  obtain ⟨v0, vs0, d0, ds0, p0, q0, hargs, rfl, rfl, h0, r0⟩ := trodAll_cons hA
  obtain ⟨rfl, rfl, rfl⟩ := trodAll_nil r0
  obtain rfl : args = #[v0] := by cases args; simp_all
  obtain ⟨rfl, rfl⟩ := trodVars_none hV
  obtain ⟨A0, n0, c0, l0, rfl, hl0, hS0, hW0, hc0, _⟩ := open_ints_sl Try.underlying44 Try.underlying5 (by kernel_rfl) (hval 0 44 v0 rfl rfl) h0
  refine (noAlias_any W A0 n0 c0 l0 hS0 (u8_bound hW0) hc0).mono fun e W' ⟨he, hs⟩ => ?_
  subst he
  exact ⟨_, rfl, law_post Try.laid (by kernel_rfl) rfl rfl Try.underlying4 rfl hW' hs⟩

/-- The statement. -/
theorem raftlogNoAliasing_holds : Rows.RaftlogNoAliasingSaid :=
  OpenClaim.holds_of_wide 8 Try.f8 rfl rfl rfl rfl rfl rfl rfl ⟨rfl, rfl, rfl, rfl, rfl⟩ rfl rfl rfl rfl rfl (by kernel_rfl) Try.func8 (by kernel_rfl)
    (of_decide_eq_true (by kernel_rfl)) (by unfold Func.isWrapper; first | (rw [if_pos (by decide +kernel)]; kernel_rfl) | (rw [if_neg (by decide +kernel)]; exact ⟨rfl, rfl⟩))
    (fun os started H enc _ => raftlogNoAliasing_lifted os started H enc)
#print axioms raftlogNoAliasing_holds
end Go.Proofs.Ytbellndcgagclaa

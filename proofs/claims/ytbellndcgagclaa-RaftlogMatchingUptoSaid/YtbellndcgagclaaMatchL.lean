/- Two logs that agree up to an index and accept the same AppendAfter after it agree up to the last entry of that AppendAfter: for all arguments that hold together at most 1048576 values and letters. -/
import Derived.Test.YtbellndcgagclaaEnd
import Derived.Test.YtbellndcgagclaaOpenB
import Derived.Test.YtbellndcgagclaaMatchW
import Derived.Test.YtbellndcgagclaaOpenAct
import Derived.JoinedCond
namespace Go.Proofs.Ytbellndcgagclaa
open Go.ChangeShapes Go.WideShapes Go.ChangeAt Go.RowKit

set_option maxRecDepth 100000 in
theorem raftlogMatching_lifted (os : Os) (started : os.Started) (H : Type) (enc : TypeId × Value → H) (F : Stop.Interp) :
    ReturnsInHanded {} Try.checked os 4 .any ((Rows.OpenSpec.upto Rows.raftlogMatchingSpec).pre6 enc Try.prog Try.f4 Rows.raftlogMatchingUptoRow.domain false) (((Rows.OpenSpec.upto Rows.raftlogMatchingSpec).at F).post enc Try.prog Try.f4 false true false false) := by
  refine returnsInHanded_of_cond (C := Try.checked) (s := (Rows.OpenSpec.upto Rows.raftlogMatchingSpec)) (k := Rows.uptoSmall) rfl Try.own started (by kernel_rfl) Try.func4
    (OpenSpec.witness (enc := enc) (C := Try.checked) (s := (Rows.OpenSpec.upto Rows.raftlogMatchingSpec)) (k := Rows.uptoSmall) rfl false ⟨#[], #[.slice none 0 0, .slice none 0 0, .agg #[.bool false, .int .i64 0, .int .i64 0, .slice none 0 0]], []⟩ 8 (by kernel_rfl) (by kernel_rfl) (by kernel_rfl)
      (x := ([.nil, .nil, .agg [.lit (.bool false), .lit (.int .i64 0), .lit (.int .i64 0), .nil]], [], [])) (by kernel_rfl) rfl (by kernel_rfl)) ?_
  intro W base args ds gs before hval0 hW _ hk _
  have hval : ∀ (j : Nat) t v, Try.f4.params[j]? = some t → args[j]? = some v → Value.okWide Try.prog W .any base t v := hval0
  have hW' := hW
  obtain ⟨p, q, hA0, hV, rfl, hfz, hnd⟩ := hW'
  have hA : DataW.TrodAll enc Try.prog W 0 (fun _ => true) true Try.f4.params.toList args.toList ds p := hA0
  rw [Try.params4] at hA hval
  obtain ⟨v0, vs0, d0, ds0, p0, q0, hargs, rfl, rfl, h0, r0⟩ := trodAll_cons hA
  obtain ⟨v1, vs1, d1, ds1, p1, q1, rfl, rfl, rfl, h1, r1⟩ := trodAll_cons r0
  obtain ⟨v2, vs2, d2, ds2, p2, q2, rfl, rfl, rfl, h2, r2⟩ := trodAll_cons r1
  obtain ⟨rfl, rfl, rfl⟩ := trodAll_nil r2
  obtain rfl : args = #[v0, v1, v2] := by cases args; simp_all
  obtain ⟨rfl, rfl⟩ := trodVars_none hV
  have hbulk : Rows.uptoBulkAll [d0, d1, d2] ≤ 1048576 := of_decide_eq_true hk
  simp only [Rows.uptoBulkAll] at hbulk
  obtain ⟨X0, n0, c0, l0, rfl, hS0, hb0⟩ := open_acts (hval 0 22 v0 rfl rfl) h0
  obtain ⟨X1, n1, c1, l1, rfl, hS1, hb1⟩ := open_acts (hval 1 22 v1 rfl rfl) h1
  obtain ⟨a2, rfl, hS2, hb2⟩ := open_act (hval 2 33 v2 rfl rfl) h2
  refine (raftlogMatching_walk W X0 n0 c0 l0 hS0 X1 n1 c1 l1 hS1 (Few.of_wt (by omega)) a2 hS2 (Few.of_wt (by simp; omega)) (by have := sum_len LAct.wt (fun a => by simp [LAct.wt]) l0; have := hS0.len; omega)).mono fun e W' ⟨he, hs⟩ => ?_
  subst he
  exact ⟨_, rfl, law_post Try.laid (by kernel_rfl) rfl rfl Try.underlying4 rfl hW hs⟩

/-- The statement. -/
theorem raftlogMatching_holds : Rows.RaftlogMatchingUptoSaid :=
  OpenClaim.holds_of_cond 4 Try.f4 rfl rfl rfl rfl rfl rfl rfl ⟨rfl, rfl, rfl, rfl, rfl⟩ rfl rfl rfl rfl rfl (by kernel_rfl) Try.func4 (by kernel_rfl)
    (of_decide_eq_true (by kernel_rfl)) (by unfold Func.isWrapper; first | (rw [if_pos (by decide +kernel)]; kernel_rfl) | (rw [if_neg (by decide +kernel)]; exact ⟨rfl, rfl⟩))
    (fun os started H enc _ F => raftlogMatching_lifted os started H enc F)
#print axioms raftlogMatching_holds
end Go.Proofs.Ytbellndcgagclaa

/- Each line that is not closed is offered to its owner within two intervals, and nothing else is sent, as ExchangeOffers asks: for every configuration and operations; no condition. -/
import Derived.Test.YtbjddfiledoaoaaGreatGen
import Derived.Test.YtbjddfiledoaoaaGreatYO
import Derived.Test.YtbjddfiledoaoaaGreatZI
namespace Go.Proofs.YtbjddfiledoaoaaGreat
open Go.ChangeShapes Go.WideShapes Go.ChangeAt Go.RowKit

set_option maxRecDepth 100000 in
theorem exchangeOffers_lifted (os : Os) (started : os.Started) (H : Type) (enc : TypeId × Value → H) :
    ReturnsInHanded {} Tryz.checked os 5 .any (Rows.exchangeOffersSpec.pre6 enc Tryz.prog Tryz.f5 Rows.exchangeOffersRow.domain false) (Rows.exchangeOffersSpec.post enc Tryz.prog Tryz.f5 false true false false) := by
  refine returnsInHanded_of_change_sized (C := Tryz.checked) Tryz.own started (by kernel_rfl) Tryz.func5
    (ChangeSpec.witness6 (enc := enc) (C := Tryz.checked) false ⟨#[], #[.agg #[.int .i64 0, .slice none 0 0, .slice none 0 0, .slice none 0 0, .slice none 0 0, .int .i64 0, .int .i64 0, .int .i64 0, .int .i64 0, .int .i64 0, .int .i64 0, .int .i64 0, .int .i64 0, .int .i64 0, .int .i64 0], .slice none 0 0], []⟩ 8 (by kernel_rfl) (by kernel_rfl) (by kernel_rfl) (by kernel_rfl)) ?_
  intro W base args ds gs before hval0 hW hcnd hsz0 _
  have hval : ∀ (j : Nat) t v, Tryz.f5.params[j]? = some t → args[j]? = some v → Value.okWide Tryz.prog W .any base t v := hval0
  have hW' := hW
  obtain ⟨p, q, hA0, hV, rfl, hfz, hnd⟩ := hW
  have hA : DataW.TrodAll enc Tryz.prog W 0 (fun _ => true) true Tryz.f5.params.toList args.toList ds p := hA0
  rw [Tryz.params5] at hA hval
  obtain ⟨v0, vs0, d0, ds0, p0, q0, hargs, rfl, rfl, h0, r0⟩ := trodAll_cons hA
  obtain ⟨v1, vs1, d1, ds1, p1, q1, rfl, rfl, rfl, h1, r1⟩ := trodAll_cons r0
  obtain ⟨rfl, rfl, rfl⟩ := trodAll_nil r1
  obtain rfl : args = #[v0, v1] := by cases args; simp_all
  obtain ⟨rfl, rfl⟩ := trodVars_none hV
  obtain ⟨c0, rfl, hC0, hF0⟩ := open_cf (fits_of hsz0 (j := 0) rfl rfl) (hval 0 27 v0 rfl rfl) h0
  obtain ⟨B1, cb1, l1, rfl, hL1, hn1⟩ := open_ats (fits_of hsz0 (j := 1) rfl rfl) (hval 1 28 v1 rfl rfl) h1
  refine (offers_walk W c0 hC0 hF0 B1 cb1 l1 hL1 hn1).mono fun e W' ⟨he, hs⟩ => ?_
  subst he
  exact ⟨_, rfl, law_post Tryz.laid (by kernel_rfl) rfl rfl Tryz.underlying4 rfl hW' hs⟩

/-- The statement. -/
theorem exchangeOffers_holds : Rows.ExchangeOffersSaid :=
  OpenClaim.holds_of_wide 5 Tryz.f5 rfl rfl rfl rfl rfl rfl rfl ⟨rfl, rfl, rfl, rfl, rfl⟩ rfl rfl rfl rfl rfl (by kernel_rfl) Tryz.func5 (by kernel_rfl)
    (of_decide_eq_true (by kernel_rfl)) (by unfold Func.isWrapper; first | (rw [if_pos (by decide +kernel)]; kernel_rfl) | (rw [if_neg (by decide +kernel)]; exact ⟨rfl, rfl⟩))
    (fun os started H enc _ => exchangeOffers_lifted os started H enc)
#print axioms exchangeOffers_holds
end Go.Proofs.YtbjddfiledoaoaaGreat

/- Modifying the sources passed to Add or returned by Rejected and Accepted does not change the estimate, as LocationNoAliasing asks: for every list of nodes and every source; the table of math/bits as the program lays it (the card ties it). -/
import Derived.Test.YtafpcffhkbeloaaDoorEnd
import Derived.Test.YtafpcffhkbeloaaDoorOpenSo
import Derived.Test.YtafpcffhkbeloaaDoorLoS
import Derived.Test.YtafpcffhkbeloaaDoorCards
import Derived.Test.YtafpcffhkbeloaaDoorTie
import Derived.SevenTiedAt
namespace Go.Proofs.YtafpcffhkbeloaaDoor
open Go.ChangeShapes Go.WideShapes Go.ChangeAt Go.RowKit

set_option maxRecDepth 100000 in
theorem locationNoAliasing_lifted (os : Os) (started : os.Started) (H : Type) (enc : TypeId × Value → H) :
    ReturnsInHanded {} Tryd.checked os 4 .any (fun w args => (Rows.locationNoAliasingSpec.pre enc Tryd.prog Tryd.f4 [] false w args ∧ laidMetH Tryd.prog laidTb w) ∧ sizedMet enc Tryd.prog Tryd.f4 (OpenSpec.ofChange Rows.locationNoAliasingSpec) false w args) (Rows.locationNoAliasingSpec.post enc Tryd.prog Tryd.f4 false true false false) := by
  refine returnsInHanded_of_change_and (C := Tryd.checked) (X := fun w _ => laidMetH Tryd.prog laidTb w) (fun _ _ _ hh h => h.of_heap hh) Tryd.own started (by kernel_rfl) Tryd.func4
    (ChangeSpec.witness_shaped (enc := enc) (C := Tryd.checked) (os := os) (X := fun w _ => laidMetH Tryd.prog laidTb w) false (World.doorLaid Tryd.prog 400 os) #[.slice none 0 0, .agg #[.int .i64 0, .slice none 0 0]] 8 rfl (World.shaped_of_RefB (by kernel_rfl) (by kernel_rfl)) (by kernel_rfl) (by kernel_rfl) (by kernel_rfl) (tb_met os _)) ?_
  intro W base args ds gs before hval0 hW hcnd hsz0 hL _
  have hval : ∀ (j : Nat) t v, Tryd.f4.params[j]? = some t → args[j]? = some v → Value.okWide Tryd.prog W .any base t v := hval0
  have hW' := hW
  obtain ⟨p, q, hA0, hV, rfl, hfz, hnd⟩ := hW
  have hA : DataW.TrodAll enc Tryd.prog W 0 (fun _ => true) true Tryd.f4.params.toList args.toList ds p := hA0
  rw [Tryd.params4] at hA hval
  obtain ⟨hTab, hPos⟩ := of_laid hL
  obtain ⟨v0, vs0, d0, ds0, p0, q0, hargs, rfl, rfl, h0, r0⟩ := trodAll_cons hA
  obtain ⟨v1, vs1, d1, ds1, p1, q1, rfl, rfl, rfl, h1, r1⟩ := trodAll_cons r0
  obtain ⟨rfl, rfl, rfl⟩ := trodAll_nil r1
  obtain rfl : args = #[v0, v1] := by cases args; simp_all
  obtain ⟨rfl, rfl⟩ := trodVars_none hV
  obtain ⟨A0, c0, all0, rfl, gA0, hc0, hm0⟩ := open_all (hval 0 22 v0 rfl rfl) h0
  obtain ⟨s1, rfl, hs1, hsb1⟩ := open_src (fits_of hsz0 (j := 1) rfl rfl) (hval 1 40 v1 rfl rfl) h1
  refine (noalias_any W hTab hPos A0 c0 all0 gA0 s1 hs1).mono fun e W' ⟨he, hs⟩ => ?_
  subst he
  exact ⟨_, rfl, law_post Tryd.laid (by kernel_rfl) rfl rfl Tryd.underlying4 rfl hW' hs⟩
theorem locationNoAliasing_row : Rows.LocationNoAliasingSaid :=
  OpenClaim.holds_of_wide 4 Tryd.f4 rfl rfl rfl rfl rfl rfl rfl ⟨rfl, rfl, rfl, rfl, rfl⟩ rfl rfl rfl rfl rfl (by kernel_rfl) Tryd.func4 (by kernel_rfl)
    (of_decide_eq_true (by kernel_rfl)) (by unfold Func.isWrapper; first | (rw [if_pos (by decide +kernel)]; kernel_rfl) | (rw [if_neg (by decide +kernel)]; exact ⟨rfl, rfl⟩))
    (fun os started H enc _ => locationNoAliasing_lifted os started H enc)
/-- The statement. -/
theorem locationNoAliasing_holds : Rows.LocationNoAliasingCardSaid :=
  Claim7.holds_tied_plain_at .later [] [.data] true (true, "d72513765d48dacb50445919b301d5732a04a7346b85253f1b0dbf38ba1db6a7") false
    locationNoAliasing_row (fun _ h => by cases h) (by kernel_rfl) (fun _ h => by cases h) locationNoAliasing_row_tie rfl ⟨rfl, rfl⟩ (by kernel_rfl) rfl
    (fun f fn hf hfn => by
      obtain rfl : f = 4 := Option.some.inj ((show Tryd.prog.funcNamed "samaritan/samaritanlaw11.LocationNoAliasing" = some 4 by kernel_rfl).symm.trans hf) |>.symm
      obtain rfl : fn = Tryd.f4 := (Option.some.inj (Tryd.func4.symm.trans hfn)).symm
      exact ⟨by kernel_rfl, fun j t ht => by
        have hm : t ∈ Tryd.f4.params.toList := by simpa using Array.mem_of_getElem? ht
        have hall : (Tryd.f4.params.toList.all fun u => !Tryd.prog.wantsStandIn u) = true := by kernel_rfl
        exact (show Tryd.prog.wantsStandIn t = false by simpa using List.all_eq_true.1 hall t hm)⟩)
    (by kernel_rfl)
#print axioms locationNoAliasing_holds
end Go.Proofs.YtafpcffhkbeloaaDoor

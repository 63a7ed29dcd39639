/- If some node belongs to every claim, no source is rejected, that node stays in the estimate, and the order of the sources does not matter, as LocationConsistentSources asks: for every list of nodes and of sources and every node; the table of math/bits as the program lays it (the card ties it). -/
import Derived.Test.YtafpcffhkbeloaaDoorEnd
import Derived.Test.YtafpcffhkbeloaaDoorOpenSo
import Derived.Test.YtafpcffhkbeloaaDoorLtZ
import Derived.Test.YtafpcffhkbeloaaDoorCards
import Derived.Test.YtafpcffhkbeloaaDoorTie
import Derived.SevenTiedAt
namespace Go.Proofs.YtafpcffhkbeloaaDoor
open Go.ChangeShapes Go.WideShapes Go.ChangeAt Go.RowKit

set_option maxRecDepth 100000 in
theorem locationConsistentSources_lifted (os : Os) (started : os.Started) (H : Type) (enc : TypeId × Value → H) :
    ReturnsInHanded {} Tryd.checked os 8 .any (fun w args => (Rows.locationConsistentSourcesSpec.pre enc Tryd.prog Tryd.f8 [] false w args ∧ laidMetH Tryd.prog laidTb w) ∧ sizedMet enc Tryd.prog Tryd.f8 (OpenSpec.ofChange Rows.locationConsistentSourcesSpec) false w args) (Rows.locationConsistentSourcesSpec.post enc Tryd.prog Tryd.f8 false true false false) := by
  refine returnsInHanded_of_change_and (C := Tryd.checked) (X := fun w _ => laidMetH Tryd.prog laidTb w) (fun _ _ _ hh h => h.of_heap hh) Tryd.own started (by kernel_rfl) Tryd.func8
    (ChangeSpec.witness_shaped (enc := enc) (C := Tryd.checked) (os := os) (X := fun w _ => laidMetH Tryd.prog laidTb w) false (World.doorLaid Tryd.prog 400 os) #[.slice none 0 0, .slice none 0 0, .int .i64 0] 8 rfl (World.shaped_of_RefB (by kernel_rfl) (by kernel_rfl)) (by kernel_rfl) (by kernel_rfl) (by kernel_rfl) (tb_met os _)) ?_
  intro W base args ds gs before hval0 hW hcnd hsz0 hL _
  have hval : ∀ (j : Nat) t v, Tryd.f8.params[j]? = some t → args[j]? = some v → Value.okWide Tryd.prog W .any base t v := hval0
  have hW' := hW
  obtain ⟨p, q, hA0, hV, rfl, hfz, hnd⟩ := hW
  have hA : DataW.TrodAll enc Tryd.prog W 0 (fun _ => true) true Tryd.f8.params.toList args.toList ds p := hA0
  rw [Tryd.params8] at hA hval
  obtain ⟨hTab, hPos⟩ := of_laid hL
  obtain ⟨v0, vs0, d0, ds0, p0, q0, hargs, rfl, rfl, h0, r0⟩ := trodAll_cons hA
  obtain ⟨v1, vs1, d1, ds1, p1, q1, rfl, rfl, rfl, h1, r1⟩ := trodAll_cons r0
  obtain ⟨v2, vs2, d2, ds2, p2, q2, rfl, rfl, rfl, h2, r2⟩ := trodAll_cons r1
  obtain ⟨rfl, rfl, rfl⟩ := trodAll_nil r2
  obtain rfl : args = #[v0, v1, v2] := by cases args; simp_all
  obtain ⟨rfl, rfl⟩ := trodVars_none hV
  obtain ⟨A0, c0, all0, rfl, gA0, hc0, hm0⟩ := open_all (hval 0 22 v0 rfl rfl) h0
  obtain ⟨X1, cx1, l1, rfl, hl1, hlc1, hcm1, hlb1⟩ := open_srcs (fits_of hsz0 (j := 1) rfl rfl) (hval 1 23 v1 rfl rfl) h1
  obtain ⟨a2, rfl, rfl, rfl, w2⟩ := open_int Tryd.underlying3 (hval 2 3 v2 rfl rfl) h2
  refine (cons_any W hTab hPos A0 c0 all0 gA0 X1 cx1 l1 hl1 (Nat.le_trans hlc1 hcm1) a2).mono fun e W' ⟨he, hs⟩ => ?_
  subst he
  exact ⟨_, rfl, law_post Tryd.laid (by kernel_rfl) rfl rfl Tryd.underlying4 rfl hW' hs⟩
theorem locationConsistentSources_row : Rows.LocationConsistentSourcesSaid :=
  OpenClaim.holds_of_wide 8 Tryd.f8 rfl rfl rfl rfl rfl rfl rfl ⟨rfl, rfl, rfl, rfl, rfl⟩ rfl rfl rfl rfl rfl (by kernel_rfl) Tryd.func8 (by kernel_rfl)
    (of_decide_eq_true (by kernel_rfl)) (by unfold Func.isWrapper; first | (rw [if_pos (by decide +kernel)]; kernel_rfl) | (rw [if_neg (by decide +kernel)]; exact ⟨rfl, rfl⟩))
    (fun os started H enc _ => locationConsistentSources_lifted os started H enc)
/-- The statement. -/
theorem locationConsistentSources_holds : Rows.LocationConsistentSourcesCardSaid :=
  Claim7.holds_tied_plain_at .later [] [.data] true (true, "d72513765d48dacb50445919b301d5732a04a7346b85253f1b0dbf38ba1db6a7") false
    locationConsistentSources_row (fun _ h => by cases h) (by kernel_rfl) (fun _ h => by cases h) locationConsistentSources_row_tie rfl ⟨rfl, rfl⟩ (by kernel_rfl) rfl
    (fun f fn hf hfn => by
      obtain rfl : f = 8 := Option.some.inj ((show Tryd.prog.funcNamed "samaritan/samaritanlaw11.LocationConsistentSources" = some 8 by kernel_rfl).symm.trans hf) |>.symm
      obtain rfl : fn = Tryd.f8 := (Option.some.inj (Tryd.func8.symm.trans hfn)).symm
      exact ⟨by kernel_rfl, fun j t ht => by
        have hm : t ∈ Tryd.f8.params.toList := by simpa using Array.mem_of_getElem? ht
        have hall : (Tryd.f8.params.toList.all fun u => !Tryd.prog.wantsStandIn u) = true := by kernel_rfl
        exact (show Tryd.prog.wantsStandIn t = false by simpa using List.all_eq_true.1 hall t hm)⟩)
    (by kernel_rfl)
#print axioms locationConsistentSources_holds
end Go.Proofs.YtafpcffhkbeloaaDoor

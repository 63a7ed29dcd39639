/- An estimate is never empty and never gains a node, and Add reports exactly whether it became smaller, as LocationShrinks asks: for every list of nodes and of sources; the table of math/bits as the program lays it (the card ties it). -/
import Derived.Test.YtafpcffhkbeloaaDoorEnd
import Derived.Test.YtafpcffhkbeloaaDoorOpenSo
import Derived.Test.YtafpcffhkbeloaaDoorLoR
import Derived.Test.YtafpcffhkbeloaaDoorCards
import Derived.Test.YtafpcffhkbeloaaDoorTie
import Derived.SevenTiedAt
namespace Go.Proofs.YtafpcffhkbeloaaDoor
open Go.ChangeShapes Go.WideShapes Go.ChangeAt Go.RowKit

set_option maxRecDepth 100000 in
theorem locationShrinks_lifted (os : Os) (started : os.Started) (H : Type) (enc : TypeId × Value → H) :
    ReturnsInHanded {} Tryd.checked os 5 .any (fun w args => (Rows.locationShrinksSpec.pre enc Tryd.prog Tryd.f5 [] false w args ∧ laidMetH Tryd.prog laidTb w) ∧ sizedMet enc Tryd.prog Tryd.f5 (OpenSpec.ofChange Rows.locationShrinksSpec) false w args) (Rows.locationShrinksSpec.post enc Tryd.prog Tryd.f5 false true false false) := by
  refine returnsInHanded_of_change_and (C := Tryd.checked) (X := fun w _ => laidMetH Tryd.prog laidTb w) (fun _ _ _ hh h => h.of_heap hh) Tryd.own started (by kernel_rfl) Tryd.func5
    (ChangeSpec.witness_shaped (enc := enc) (C := Tryd.checked) (os := os) (X := fun w _ => laidMetH Tryd.prog laidTb w) false (World.doorLaid Tryd.prog 400 os) #[.slice none 0 0, .slice none 0 0, .agg #[.int .i64 0, .slice none 0 0]] 8 rfl (World.shaped_of_RefB (by kernel_rfl) (by kernel_rfl)) (by kernel_rfl) (by kernel_rfl) (by kernel_rfl) (tb_met os _)) ?_
  intro W base args ds gs before hval0 hW hcnd hsz0 hL _
  have hval : ∀ (j : Nat) t v, Tryd.f5.params[j]? = some t → args[j]? = some v → Value.okWide Tryd.prog W .any base t v := hval0
  have hW' := hW
  obtain ⟨p, q, hA0, hV, rfl, hfz, hnd⟩ := hW
  have hA : DataW.TrodAll enc Tryd.prog W 0 (fun _ => true) true Tryd.f5.params.toList args.toList ds p := hA0
  rw [Tryd.params5] at hA hval
  obtain ⟨hTab, hPos⟩ := of_laid hL
  obtain ⟨v0, vs0, d0, ds0, p0, q0, hargs, rfl, rfl, h0, r0⟩ := trodAll_cons hA
  obtain ⟨v1, vs1, d1, ds1, p1, q1, rfl, rfl, rfl, h1, r1⟩ := trodAll_cons r0
  obtain ⟨v2, vs2, d2, ds2, p2, q2, rfl, rfl, rfl, h2, r2⟩ := trodAll_cons r1
  obtain ⟨rfl, rfl, rfl⟩ := trodAll_nil r2
  obtain rfl : args = #[v0, v1, v2] := by cases args; simp_all
  obtain ⟨rfl, rfl⟩ := trodVars_none hV
  obtain ⟨A0, c0, all0, rfl, gA0, hc0, hm0⟩ := open_all (hval 0 22 v0 rfl rfl) h0
  obtain ⟨X1, cx1, l1, rfl, hl1, hlc1, hcm1, hlb1⟩ := open_srcs (fits_of hsz0 (j := 1) rfl rfl) (hval 1 23 v1 rfl rfl) h1
  obtain ⟨s2, rfl, hs2, hsb2⟩ := open_src (fits_of hsz0 (j := 2) rfl rfl) (hval 2 40 v2 rfl rfl) h2
  refine (shrinks_any W hTab hPos A0 c0 all0 gA0 X1 cx1 l1 hl1 hlb1 s2 hs2 hsb2).mono fun e W' ⟨he, hs⟩ => ?_
  subst he
  exact ⟨_, rfl, law_post Tryd.laid (by kernel_rfl) rfl rfl Tryd.underlying4 rfl hW' hs⟩
theorem locationShrinks_row : Rows.LocationShrinksSaid :=
  OpenClaim.holds_of_wide 5 Tryd.f5 rfl rfl rfl rfl rfl rfl rfl ⟨rfl, rfl, rfl, rfl, rfl⟩ rfl rfl rfl rfl rfl (by kernel_rfl) Tryd.func5 (by kernel_rfl)
    (of_decide_eq_true (by kernel_rfl)) (by unfold Func.isWrapper; first | (rw [if_pos (by decide +kernel)]; kernel_rfl) | (rw [if_neg (by decide +kernel)]; exact ⟨rfl, rfl⟩))
    (fun os started H enc _ => locationShrinks_lifted os started H enc)
/-- The statement. -/
theorem locationShrinks_holds : Rows.LocationShrinksCardSaid :=
  Claim7.holds_tied_plain_at .later [] [.data] true (true, "d72513765d48dacb50445919b301d5732a04a7346b85253f1b0dbf38ba1db6a7") false
    locationShrinks_row (fun _ h => by cases h) (by kernel_rfl) (fun _ h => by cases h) locationShrinks_row_tie rfl ⟨rfl, rfl⟩ (by kernel_rfl) rfl
    (fun f fn hf hfn => by
      obtain rfl : f = 5 := Option.some.inj ((show Tryd.prog.funcNamed "samaritan/samaritanlaw11.LocationShrinks" = some 5 by kernel_rfl).symm.trans hf) |>.symm
      obtain rfl : fn = Tryd.f5 := (Option.some.inj (Tryd.func5.symm.trans hfn)).symm
      exact ⟨by kernel_rfl, fun j t ht => by
        have hm : t ∈ Tryd.f5.params.toList := by simpa using Array.mem_of_getElem? ht
        have hall : (Tryd.f5.params.toList.all fun u => !Tryd.prog.wantsStandIn u) = true := by kernel_rfl
        exact (show Tryd.prog.wantsStandIn t = false by simpa using List.all_eq_true.1 hall t hm)⟩)
    (by kernel_rfl)
#print axioms locationShrinks_holds
end Go.Proofs.YtafpcffhkbeloaaDoor

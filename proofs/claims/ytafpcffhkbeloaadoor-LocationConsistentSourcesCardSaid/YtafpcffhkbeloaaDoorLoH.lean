import Derived.Test.YtafpcffhkbeloaaDoorLoG
namespace Go.Proofs.YtafpcffhkbeloaaDoor
open Go.RowKit

section
variable (w : World) (eb : Nat) (r : Option Nat) (base : Nat) (va vn R : Value) (all nodes : List Nat) (l : List Ad) (h : IsEst w eb r base va vn R all nodes l)
include h
set_option maxRecDepth 100000 in
theorem rejected_any : Calls Tryd.prog 19 #[.pointer (some ⟨eb, 0, none⟩)] w (ListPost2 w (keys (told l false))) := by
  have HL := hid (elist_any w eb r base va vn R all nodes l h false)
  unfold ListPost2 at HL
  clear h
  generalize keys (told l false) = K at *
  go_enter Tryd.func19, Tryd.ntmps19
  go_wp2_with fail
  (with_reducible refine HL.out.mono ?_)
  rintro e w3 ⟨B, d, L, hK, rfl, hs, hk⟩
  have HF := hid (show _ ∧ _ ∧ _ from ⟨hK, hs, hk⟩)
  clear hK hs hk
  go_wp2_with fail
  go_ret
  exact ⟨B, d, L, HF.out.1, rfl, HF.out.2.1, HF.out.2.2⟩
set_option maxRecDepth 100000 in
theorem accepted_any : Calls Tryd.prog 20 #[.pointer (some ⟨eb, 0, none⟩)] w (ListPost2 w (keys (told l true))) := by
  have HL := hid (elist_any w eb r base va vn R all nodes l h true)
  unfold ListPost2 at HL
  clear h
  generalize keys (told l true) = K at *
  go_enter Tryd.func20, Tryd.ntmps20
  go_wp2_with fail
  (with_reducible refine HL.out.mono ?_)
  rintro e w3 ⟨B, d, L, hK, rfl, hs, hk⟩
  have HF := hid (show _ ∧ _ ∧ _ from ⟨hK, hs, hk⟩)
  clear hK hs hk
  go_wp2_with fail
  go_ret
  exact ⟨B, d, L, HF.out.1, rfl, HF.out.2.1, HF.out.2.2⟩
end
end Go.Proofs.YtafpcffhkbeloaaDoor

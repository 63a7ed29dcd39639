import Derived.Test.YtffodheoamlhjaaSeal
namespace Go.Proofs.Ytffodheoamlhjaa
open Go.RowKit

section
variable (w : World) (A : Option Addr) (n c : Nat) (hs : List Int) (len : Int) (hA : Sl w (fun _ => False) 1 A n (hs.map (Value.int .i64))) (B : Option Addr) (m d : Nat) (ops : List Ac) (hB : Sl w (fun _ => False) 6 B m (acFlat ops))
include hA hB
set_option maxHeartbeats 1000000 in
theorem leaseChecksum_walk : Calls Try.prog 8 #[.slice A n c, .int .i64 len, .slice B m d] w fun e w' => e = .returned (.bool true) ∧ Same w w' := by
  have HP := hid (played_any w A n c hs len hA B m d ops hB)
  clear hA hB
  go_enter Try.func8, Try.ntmps8
  go_wp2_with fail
  refine HP.out.mono ?_
  unfold PlPost
  clear HP
  generalize ops.foldl doR (hs.map (mkSt len)) = L
  rintro e w1 (⟨tb, sb, X, cx, rfl, hb1, hb2, hT, hH, hk⟩ | ⟨X, cx, rfl, hk⟩)
  · have hsm := hT.small
    have HT := hid hT
    have HS := hid (fun W (h : Same w1 W) => seal_any W _ X cx L (hH.same h) hsm)
    have HC := hid (checksum_any w1 tb sb L hT)
    clear hT hH
    generalize ckR L = C at *
    go_wp2_with fail
    refine HC.out.mono ?_
    rintro e w2 ⟨rfl, hk2⟩
    go_wp2_with fail
    refine (HS.out w2 hk2).mono ?_
    rintro e w3 ⟨rfl, hk3⟩
    go_wp2_with (go_at_call 11; refine (awake_any _).mono ?_; rintro e w' ⟨rfl, hk'⟩)
    go_ret
    exact ⟨rfl, ((hk.then hk2).then hk3).then hk'⟩
  · go_wp2_with (go_at_call 11; refine (awake_any _).mono ?_; rintro e w' ⟨rfl, hk'⟩)
    go_ret
    exact ⟨rfl, hk.then hk'⟩
end
end Go.Proofs.Ytffodheoamlhjaa

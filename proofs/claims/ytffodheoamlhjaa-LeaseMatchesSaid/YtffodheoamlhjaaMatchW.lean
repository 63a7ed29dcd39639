import Derived.Test.YtffodheoamlhjaaPlayed
namespace Go.Proofs.Ytffodheoamlhjaa
open Go.RowKit

section
variable (w : World) (A : Option Addr) (n c : Nat) (hs : List Int) (len : Int) (hA : Sl w (fun _ => False) 1 A n (hs.map (Value.int .i64))) (B : Option Addr) (m d : Nat) (ops : List Ac) (hB : Sl w (fun _ => False) 6 B m (acFlat ops))
include hA hB
set_option maxHeartbeats 1000000 in
theorem leaseMatches_walk : Calls Try.prog 4 #[.slice A n c, .int .i64 len, .slice B m d] w fun e w' => e = .returned (.bool true) ∧ Same w w' := by
  have HP := hid (played_any w A n c hs len hA B m d ops hB)
  clear hA hB
  go_enter Try.func4, Try.ntmps4
  go_wp2_with fail
  refine HP.out.mono ?_
  unfold PlPost
  clear HP
  generalize ops.foldl doR (hs.map (mkSt len)) = L
  rintro e w1 (⟨tb, sb, X, cx, rfl, hb1, hb2, hT, hH, hk⟩ | ⟨X, cx, rfl, hk⟩)
  · have hsm := hT.small
    have HT := hid hT
    have HH := hid hH
    clear hT hH
    go_wp2
    go_loopw [10] (fun i wr => ∃ k : Nat, k ≤ L.length + 2 ∧ i = .int .i64 ((k : Int) - 1) ∧ IsTable wr tb sb L ∧ Th wr (fun g => g = sb ∨ g = tb) X L ∧ Same w wr) (fun i _ => L.length + 2 - (intOf i + 1).toNat)
    case atStart => exact ⟨0, by omega, rfl, HT.out, HH.out, hk⟩
    case round =>
      obtain ⟨k, hkm, rfl, hTr, hHr, hKr⟩ := hrel
      have HT := hid hTr
      have HH := hid hHr
      clear hTr hHr
      by_cases hlt : k ≤ L.length + 1
      · go_wp2_with fail
        refine (last_any wr tb sb L HT.out ((k : Int) - 1)).mono ?_
        rintro e w2 ⟨rfl, hk2⟩
        have HR := hid (rlast_any w2 _ X cx L (HH.out.same hk2) hsm ((k : Int) - 1))
        generalize lastR L ((k : Int) - 1) = R at *
        obtain ⟨r1, r2, r3⟩ := R
        go_wp2_with fail
        refine HR.out.mono ?_
        rintro e w3 ⟨gvv, rfl, hk3⟩
        have HT3 := hid (HT.out.keep (hk2.then hk3) (fun f => f) (fun f => f))
        have HH3 := hid (HH.out.same (hk2.then hk3))
        have HK3 := hid ((hKr.then hk2).then hk3)
        go_wp2
        go_roundw
        case rel => exact ⟨k + 1, by omega, by go_num, HT3.out.keep ((Keep.refl (fun _ => False) _).alloc _) (fun f => f) (fun f => f), HH3.out.same ((Keep.refl _ _).alloc _), HK3.out.alloc _⟩
        case measure => simp [intOf]; omega
      · go_wp2_with (go_at_call 11; refine (awake_any _).mono ?_; rintro e w' ⟨rfl, hk'⟩)
        go_ret
        exact ⟨rfl, hKr.then hk'⟩
  · go_wp2_with (go_at_call 11; refine (awake_any _).mono ?_; rintro e w' ⟨rfl, hk'⟩)
    go_ret
    exact ⟨rfl, hk.then hk'⟩
end
end Go.Proofs.Ytffodheoamlhjaa

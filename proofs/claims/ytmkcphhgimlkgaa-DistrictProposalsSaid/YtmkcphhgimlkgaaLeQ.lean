import Derived.Test.YtmkcphhgimlkgaaLeL
namespace Go.Proofs.Ytmkcphhgimlkgaa
open Go.RowKit

/-- What the reference's New leaves. -/
def RNewPost (w : World) (hs : List Int) (len : Int) (e : Ending) (w' : World) : Prop :=
  (hs.all vH = true ∧ ∃ A c, e = .returned (.tuple #[.slice A hs.length c, .int .i64 0]) ∧ Th w' (· < w.heap.size) A (hs.map (mkSt len)) ∧ Same w w') ∨
  (hs.all vH = false ∧ e = .returned (.tuple #[.slice none 0 0, .int .i64 1]) ∧ Same w w')

set_option maxHeartbeats 1000000 in
theorem rnew_any (w : World) (A : Option Addr) (n c : Nat) (hs : List Int) (len : Int) (Av : Nat → Prop) (hA : Sl w Av 1 A n (hs.map (Value.int .i64))) (h1 : 1 ≤ n) (h2 : n ≤ 64) (h3 : vL len = true) :
    Calls Try.prog 49 #[.slice A n c, .int .i64 len] w (RNewPost w hs len) := by
  have hn : hs.length = n := by simpa using hA.len
  obtain ⟨b, off, rfl, hb, _, hrow⟩ := hA.at_ (by omega)
  have hrow := hid hrow
  clear hA
  go_enter Try.func49, Try.ntmps49
  go_wp2_with (go_at_call 75; refine (rL_any _ _).mono ?_; rintro e w' ⟨rfl, rfl⟩)
  go_loopw [6, 24] (fun v i wr => ∃ k : Nat, ∃ B d, k ≤ n ∧ i = .int .i64 k ∧ v = .slice B k d ∧ Own wr w.heap.size 72 4 (.slice B k d) k (thFlat ((hs.take k).map (mkSt len))) ∧ Same w wr ∧ (hs.take k).all vH = true) (fun _ i _ => n - (intOf i).toNat)
  case atStart => exact ⟨0, none, 0, by omega, rfl, rfl, by simpa [thFlat] using Own.nil w w.heap.size 72 4, Keep.refl _ _, by simp⟩
  case round =>
    obtain ⟨k, B, d, hk, rfl, rfl, hO, hK, hV⟩ := hrel
    by_cases hkn : k < n
    · obtain ⟨h, hh⟩ : ∃ h, hs[k]? = some h := get_some (by omega)
      have hc : wr.cell? ⟨b, off + k, none⟩ = some (.int .i64 h) := (hK.cell (p := ⟨b, off + k, none⟩) hb (fun f => f)).trans (hrow.out k _ (by simp [hh]))
      have Hh := hid hh
      have HO := hid hO
      have HV := hid hV
      clear hh hO hV
      by_cases hv : vH h = true
      · go_wp2_with (first
          | (go_at_call 76; refine (rH_any _ _).mono ?_; rintro e w' ⟨rfl, rfl⟩)
          | (at_builtin
             refine E27.law (.tmp 31) (.tmp 35) (.slice B k d) (some ⟨wr.heap.size, 0, none⟩) 1 1 rfl rfl rfl rfl w.heap.size k _ (mkSt len h).th (HO.out.keep ((Keep.refl (fun _ => False) wr).alloc _) (fun _ _ _ f => f)) rfl
               (fun _ => ⟨_, rfl, src_new rfl⟩) (by intro u hu; simp [St.th] at hu; rcases hu with rfl | rfl | rfl | rfl <;> rfl) (by omega) (by unfold maxLen; omega) (by have := hK.size; simp; omega) ?_
             intro A' c' w' hown hg))
        go_roundw
        case rel =>
          refine ⟨k + 1, A', c', by omega, by go_num, rfl, ?_, (hK.alloc _).grown hg (fun g e hl => by have := HO.out.block g e; omega), ?_⟩
          · rw [take_snoc Hh.out]
            simpa [thFlat, List.flatMap_append] using hown
          · rw [take_all Hh.out, HV.out, hv]; rfl
        case measure => simp [intOf]; omega
      · have hv' : vH h = false := by simpa using hv
        clear hv
        go_wp2_with (go_at_call 76; refine (rH_any _ _).mono ?_; rintro e w' ⟨rfl, rfl⟩)
        go_ret2
        exact .inr ⟨all_no Hh.out hv', rfl, hK⟩
    · obtain rfl : k = n := by omega
      have HO := hid hO
      have HV := hid hV
      clear hO hV
      go_wp2
      go_ret2
      have ht : hs.take hs.length = hs := List.take_length
      refine .inl ⟨?_, B, d, by rw [hn]; rfl, ?_, hK⟩
      · have := HV.out; rwa [← hn, ht] at this
      · have := HO.out.slN
        rw [← hn, ht] at this
        simpa [Th] using this
end Go.Proofs.Ytmkcphhgimlkgaa

import Derived.Test.YtbellndcgagclaaSlice
import Derived.Test.YtbellndcgagclaaSameE
namespace Go.Proofs.Ytbellndcgagclaa
open Go.RowKit

def FromPost (w : World) (Av : Nat → Prop) (q : List En) (e : Ending) (w' : World) : Prop :=
  ∃ Y n d, e = .returned (.slice Y n d) ∧ Ls w' Av Y n d q ∧ Same w w'
def fromK (l : List En) (j p k : Nat) : List En := ((l.take k).drop j).take p
theorem fromK_len {l : List En} {j p k : Nat} (h : k ≤ l.length) : (fromK l j p k).length = min p (k - j) := by simp [fromK]; omega
theorem fromK_yes {l : List En} {j p k : Nat} {e : En} (h : l[k]? = some e) (hj : j ≤ k) (hp : (fromK l j p k).length < p) : fromK l j p (k + 1) = fromK l j p k ++ [e] := by
  have hk := (List.getElem?_eq_some_iff.1 h).1
  rw [fromK_len (by omega)] at hp
  unfold fromK
  have e1 : ((l.take k).drop j).length ≤ p := by simp; omega
  have e2 : ((l.take k).drop j ++ [e]).length ≤ p := by simp; omega
  rw [take_snoc h, List.drop_append_of_le_length (by simp; omega), List.take_of_length_le e1, List.take_of_length_le e2]
theorem fromK_no {l : List En} {j p k : Nat} (hk : k < l.length) (h : k < j ∨ ¬ (fromK l j p k).length < p) : fromK l j p (k + 1) = fromK l j p k := by
  rw [fromK_len (by omega)] at h
  unfold fromK
  obtain ⟨e, he⟩ := get_some hk
  rw [take_snoc he]
  by_cases h1 : k < j
  · rw [List.drop_of_length_le (by simp; omega), List.drop_of_length_le (by simp; omega)]
  · rw [List.drop_append_of_le_length (by simp; omega), List.take_append_of_le_length (by simp; omega)]
set_option maxHeartbeats 8000000 in
set_option maxRecDepth 100000 in
theorem from_any (w : World) (Av : Nat → Prop) (hAv : ∀ i, Av i → i < w.heap.size) (X : Option Addr) (n c : Nat) (l : List En) (h : Ls w Av X n c l) (hn : n ≤ 1000) (i most : Int) :
    Calls Try.prog 26 #[.slice X n c, .int .i64 i, .int .i64 most] w (FromPost w Av (fromN l i most)) := by
  have hl := hid h.len
  have HL := hid h
  clear h
  obtain ⟨j, hj⟩ : ∃ j : Nat, j = (max i 1 - 1).toNat := ⟨_, rfl⟩
  obtain ⟨p, hp⟩ : ∃ p : Nat, p = most.toNat := ⟨_, rfl⟩
  have hq := hid (show fromN l i most = fromK l j p n by
    unfold fromN fromK
    rw [List.take_of_length_le (l := l) (by have := hl.out; omega), ← hj, ← hp]
    split
    · rw [show p = 0 by omega]; simp
    · rfl)
  go_enter Try.func26, Try.ntmps26
  go_wp2_with fail
  go_loopw [7, 8] (fun v x wr => ∃ k z : Nat, ∃ B d, k ≤ n ∧ x = .int .i64 k ∧ v = .slice B z d ∧ z ≤ k ∧ Hid (z = (fromK l j p k).length) ∧ Hid (Own wr w.heap.size 46 3 (.slice B z d) z (enFlat (fromK l j p k))) ∧ Hid (Same w wr)) (fun _ x _ => n - (RowKit.intOf x).toNat)
  case atStart => exact ⟨0, 0, none, 0, by omega, rfl, rfl, by omega, hid (by simp [fromK]), hid (by simpa [fromK, enFlat] using Own.nil w w.heap.size 46 3), hid (Keep.refl _ w)⟩
  case round =>
    obtain ⟨k, z, B, d, hk, rfl, rfl, hzk, hz, HO, HK⟩ := hrel
    by_cases hkn : k < n
    · obtain ⟨e, he⟩ := get_some (l := l) (k := k) (by have := hl.out; omega)
      obtain ⟨b, off, rfl, c0, c1, c2⟩ := (HL.out.same HK.out).at_ he
      have HE := hid he
      have hkl := hl.out
      have hk1 : (k : Int) < (n : Int) := by omega
      clear he
      by_cases h1 : (k : Int) + 1 < i
      · have hno := hid (fromK_no (l := l) (j := j) (p := p) (k := k) (by omega) (.inl (by omega)))
        go_wp2_with fail
        go_roundw
        case rel => exact ⟨k + 1, z, B, d, by omega, by go_num, rfl, by omega, by rw [hno.out]; exact hz, by rw [hno.out]; exact HO, HK⟩
        case measure => simp [RowKit.intOf]; omega
      · have h1' : i ≤ (k : Int) + 1 := by omega
        by_cases h2 : (z : Int) < most
        · have hyes := hid (fromK_yes (l := l) (j := j) (p := p) (k := k) HE.out (by omega) (by have := hz.out; omega))
          go_wp2_with (first
            | (at_builtin
               refine E26.law2 (.tmp 25) (.tmp 30) (.slice B z d) (some ⟨wr.heap.size, 0, none⟩) 1 1 rfl rfl rfl rfl w.heap.size z (enFlat (fromK l j p k)) e.cells (z + 1) _ rfl rfl (HO.out.keep ((Keep.refl (fun _ => False) wr).alloc _) (fun _ _ _ f => f)) rfl (fun _ => ⟨_, rfl, src_new rfl⟩) (by intro u hu; exact enFlat_one [e] u (by simpa [enFlat] using hu)) (by omega) (by unfold maxLen; omega) (by have := HK.out.size; simp; omega) ?_
               intro A' c' w2 hown hg _
               have HO2 := hid hown
               have HK2 := hid ((HK.out.alloc (.cells #[.int .i64 e.t, .int .i64 e.k, .slice e.A e.m e.c] 46)).app (HO.out.keep ((Keep.refl (fun _ => False) wr).alloc (.cells #[.int .i64 e.t, .int .i64 e.k, .slice e.A e.m e.c] 46)) (fun _ _ _ f => f)) hg (fun g h1 h2 => by omega))
               clear hown hg))
          go_roundw
          case rel => exact ⟨k + 1, z + 1, A', c', by omega, by go_num, rfl, by omega, by rw [hyes.out]; exact hid (by have := hz.out; simp; omega), by rw [hyes.out]; exact hid (by have := HO2.out; simpa [enFlat] using this), HK2⟩
          case measure => simp [RowKit.intOf]; omega
        · have h2' : most ≤ (z : Int) := by omega
          have hno := hid (fromK_no (l := l) (j := j) (p := p) (k := k) (by omega) (.inr (by have := hz.out; omega)))
          go_wp2_with fail
          go_roundw
          case rel => exact ⟨k + 1, z, B, d, by omega, by go_num, rfl, by omega, by rw [hno.out]; exact hz, by rw [hno.out]; exact HO, HK⟩
          case measure => simp [RowKit.intOf]; omega
    · obtain rfl : k = n := by omega
      have hkl := hl.out
      go_wp2_with fail
      go_ret
      refine ⟨B, z, d, rfl, ⟨by rw [hq.out, ← hz.out], by rw [hq.out]; exact HO.out.sl (fun g hg h => by have := hAv g h; omega), ?_, HO.out.cap⟩, HK.out⟩
      intro e he
      refine (HL.out.el e ?_).same HK.out
      rw [hq.out] at he
      exact List.mem_of_mem_take (List.mem_of_mem_drop (List.mem_of_mem_take he))
end Go.Proofs.Ytbellndcgagclaa

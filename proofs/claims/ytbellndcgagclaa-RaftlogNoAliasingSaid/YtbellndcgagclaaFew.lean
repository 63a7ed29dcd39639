import Derived.Test.YtbellndcgagclaaActs
import Derived.Test.YtbellndcgagclaaStep
namespace Go.Proofs.Ytbellndcgagclaa
open Go.RowKit

def ents (l : List LAct) : List En := l.flatMap LAct.es
theorem ents_snoc {l : List LAct} {k : Nat} {a : LAct} (h : l[k]? = some a) : ents (l.take (k + 1)) = ents (l.take k) ++ a.es := by
  rw [take_snoc h]; simp [ents]
theorem ents_mono (l : List LAct) (k : Nat) : (ents (l.take k)).length ≤ (ents l).length := by
  have h : ents l = ents (l.take k) ++ ents (l.drop k) := by
    unfold ents
    rw [← List.flatMap_append, List.take_append_drop]
  rw [h, List.length_append]; omega
def smallA (l : List LAct) : Bool := l.all (fun a => smallE a.es) && (decide (l.length ≤ 40) && decide ((ents l).length ≤ 120))
/-- what the bound on the arguments gives -/
structure Few (l : List LAct) : Prop where
  len : l.length ≤ 1048576
  tot : (ents l).length ≤ 1048576
  bod : ∀ a ∈ l, ∀ e ∈ a.es, e.m ≤ 1048576
theorem zero33 : (Try.prog.info? 33).map (fun i => i.zero) = some (some (.agg #[.bool false, .int .i64 0, .int .i64 0, .slice none 0 0])) := by kernel_rfl
set_option maxHeartbeats 8000000 in
set_option maxRecDepth 100000 in
theorem small_any (w : World) (Av : Nat → Prop) (X : Option Addr) (n c : Nat) (l : List LAct) (h : As w Av X n c l) (hf : Few l) : Calls Try.prog 12 #[.slice X n c] w (PlainPost w (smallA l)) := by
  have Hl := hid h.len
  have HL := hid h
  have HF := hid hf
  have hn : n ≤ 1048576 := by have := hf.len; have := h.len; omega
  clear h hf
  go_enter Try.func12, Try.ntmps12
  go_wp2_with fail
  go_loopw [3, 8] (fun v i wr => ∃ k z : Nat, ∃ B d, k ≤ n ∧ i = .int .i64 k ∧ v = .slice B z d ∧ z ≤ 1048576 ∧ Hid (z = (ents (l.take k)).length) ∧ Hid (Own wr w.heap.size 46 3 (.slice B z d) z (enFlat (ents (l.take k)))) ∧ Hid (Same w wr) ∧ Hid ((l.take k).all (fun a => smallE a.es) = true)) (fun _ i _ => n - (RowKit.intOf i).toNat)
  case atStart => exact ⟨0, 0, none, 0, by omega, rfl, rfl, by omega, hid (by simp [ents]), hid (by simpa [ents, enFlat] using Own.nil w w.heap.size 46 3), hid (Keep.refl _ w), hid (by simp)⟩
  case round =>
    obtain ⟨k, z, B, d, hk, rfl, rfl, hz, HZ, HO, HK, HA⟩ := hrel
    by_cases hkn : k < n
    · obtain ⟨a, ha⟩ := get_some (l := l) (k := k) (by have := Hl.out; omega)
      have Ha := hid ha
      obtain ⟨b, off, rfl, c0, c1, c2, c3⟩ := (HL.out.same HK.out).at_ ha
      obtain ⟨b', off', e', d0, d1, d2, d3⟩ := (HL.out.same (HK.out.alloc (.cells #[.bool false, .int .i64 0, .int .i64 0, .slice none 0 0] 33))).at_ ha
      cases e'
      have hLs := hid ((HL.out.el a (List.mem_of_getElem? ha)).same HK.out)
      have HR := hid (fun W (hs : Same wr W) => rsmall_any W Av a.X a.n a.c a.es (hLs.out.same hs) (HF.out.bod a (List.mem_of_getElem? ha)) (by
        have h1 := HF.out.tot
        have h2 := ents_mono l (k + 1)
        rw [ents_snoc ha, List.length_append, hLs.out.len] at h2
        omega))
      have hz2 : z + a.n ≤ 1048576 := by
        have h1 := HF.out.tot
        have h2 := ents_mono l (k + 1)
        have h3 := HZ.out
        rw [ents_snoc ha, List.length_append, hLs.out.len] at h2
        omega
      have hk1 : (k : Int) < (n : Int) := by omega
      have hb := (Blk.made wr 33 #[.bool false, .int .i64 0, .int .i64 0, .slice none 0 0])
      have f0 := hb.free 0
      have f1 := hb.free 1
      have f2 := hb.free 2
      have f3 := hb.free 3
      have z0 : (wr.alloc (.cells #[.bool false, .int .i64 0, .int .i64 0, .slice none 0 0] 33)).cell? ⟨wr.heap.size, 0, none⟩ = some (.bool false) := hb.at_ 0
      have z1 : (wr.alloc (.cells #[.bool false, .int .i64 0, .int .i64 0, .slice none 0 0] 33)).cell? ⟨wr.heap.size, 1, none⟩ = some (.int .i64 0) := hb.at_ 1
      have z2 : (wr.alloc (.cells #[.bool false, .int .i64 0, .int .i64 0, .slice none 0 0] 33)).cell? ⟨wr.heap.size, 2, none⟩ = some (.int .i64 0) := hb.at_ 2
      have z3 : (wr.alloc (.cells #[.bool false, .int .i64 0, .int .i64 0, .slice none 0 0] 33)).cell? ⟨wr.heap.size, 3, none⟩ = some (.slice none 0 0) := hb.at_ 3
      have HKb := hid ((Keep.refl (fun _ => False) wr).alloc (.cells #[.bool a.put, .int .i64 a.prev, .int .i64 a.term, .slice a.X a.n a.c] 33))
      have hb2 := (Blk.made wr 33 #[.bool a.put, .int .i64 a.prev, .int .i64 a.term, .slice a.X a.n a.c])
      have y3 : (wr.alloc (.cells #[.bool a.put, .int .i64 a.prev, .int .i64 a.term, .slice a.X a.n a.c] 33)).cell? ⟨wr.heap.size, 3, none⟩ = some (.slice a.X a.n a.c) := hb2.at_ 3
      have HSrc := hid (hLs.out.sl.src HKb.out)
      have HOb := hid (HO.out.keep HKb.out (fun _ _ _ f => f))
      clear ha hb hb2
      by_cases hs : smallE a.es = true
      · rw [hs] at HR
        have HRb := hid (HR.out _ HKb.out)
        go_wp2_with (first
          | (go_at_call 36; refine HRb.out.mono ?_; rintro e' w2 ⟨rfl, rfl⟩)
          | (at_builtin
             refine E26.law2 (.tmp 16) (.tmp 18) (.slice B z d) a.X a.n a.c rfl rfl rfl rfl w.heap.size z (enFlat (ents (l.take k))) (enFlat a.es) (z + a.n) _ rfl rfl HOb.out (by rw [enFlat_len, hLs.out.len]) HSrc.out (enFlat_one _) (by omega) (by unfold maxLen; omega) (Nat.le_trans HK.out.size (by simp)) ?_
             intro A5 d5 w5 ho5 hg5 _
             have HO5 := hid ho5
             have HK5 := hid ((HK.out.then HKb.out).app HOb.out hg5 (fun g h1 h2 => by omega))
             clear ho5 hg5))
        go_roundw
        case rel => exact ⟨k + 1, z + a.n, A5, d5, by omega, by go_num, rfl, hz2, hid (by rw [ents_snoc Ha.out, List.length_append, ← HZ.out, hLs.out.len]), hid (by rw [ents_snoc Ha.out]; have := HO5.out; simpa [enFlat] using this), HK5, hid (by rw [take_all Ha.out, HA.out, hs]; rfl)⟩
        case measure => simp [RowKit.intOf]; omega
      · have hs' : smallE a.es = false := by simpa using hs
        rw [hs'] at HR
        have HRb := hid (HR.out _ HKb.out)
        have hq := hid (show smallA l = false by
          have := all_no (p := fun a : LAct => smallE a.es) Ha.out hs'
          simp [smallA, this])
        go_wp2_with (first
          | (go_at_call 36; refine HRb.out.mono ?_; rintro e' w2 ⟨rfl, rfl⟩))
        go_ret
        exact ⟨by rw [hq.out]; rfl, HK.out.then HKb.out⟩
    · obtain rfl : k = n := by omega
      have hq := hid (show smallA l = (decide ((k : Int) ≤ 40) && decide ((z : Int) ≤ 120)) by
        have h1 := HA.out
        have h2 := HZ.out
        have h3 := Hl.out
        rw [List.take_of_length_le (by omega)] at h1 h2
        simp only [smallA, h1, ← h2, h3, Bool.true_and]
        congr 1 <;> (simp; omega))
      by_cases h40 : k ≤ 40
      all_goals
        go_wp2_with fail
        go_ret
        refine ⟨?_, HK.out⟩
        rw [hq.out]
        simp <;> omega
end Go.Proofs.Ytbellndcgagclaa

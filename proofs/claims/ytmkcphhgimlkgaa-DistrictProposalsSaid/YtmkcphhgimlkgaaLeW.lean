import Derived.Test.YtmkcphhgimlkgaaLeR
namespace Go.Proofs.Ytmkcphhgimlkgaa
open Go.RowKit
set_option maxHeartbeats 1000000 in
theorem with_any (w : World) (Av : Nat → Prop) (A : Option Addr) (c : Nat) (l : List St) (hT : Th w Av A l) (hs : l.length ≤ 64) (i : Nat) (s : St) (hi : i < l.length) :
    Calls Try.prog 78 #[.slice A l.length c, .int .i64 i, .agg s.th.toArray] w fun e w' => ∃ A' c', e = .returned (.slice A' (l.set i s).length c') ∧ Th w' (· < w.heap.size) A' (l.set i s) ∧ Same w w' := by
  have hl := thFlat_len l
  have h1 := thFlat_one l
  have hS4 := hid (set4 l i s hi)
  have hlen : (l.set i s).length = l.length := by simp
  have hsrc := hid (hT.src ((Keep.refl _ w).alloc (.cells s.th.toArray 72)))
  have hp := hid h1
  clear hT h1
  simp only [hlen, Th]
  generalize thFlat l = xs at *
  generalize hy : thFlat (l.set i s) = ys at *
  generalize l.length = n at *
  clear hy hlen
  simp only [St.th] at hsrc ⊢
  go_enter Try.func78, Try.ntmps78
  go_wp2_with (
    at_builtin
    refine E27.law (.tmp 8) (.tmp 9) (.slice none 0 0) A n c rfl rfl rfl rfl (w.heap.size + 1) 0 [] xs (Own.nil _ _ _ _) hl hsrc.out hp.out (by omega) (by unfold maxLen; omega) (by simp) ?_
    intro A' c' w1 hown hg
    have hK0 : Same w (w.alloc (.cells #[.int .i64 s.h, .int .i64 s.e, .int .i64 s.u, .int .i64 (gv s.r)] 72)) := (Keep.refl _ _).alloc _
    have hK1 : Same w w1 := hK0.app (Own.nil _ (w.heap.size + 1) 72 4) hg (fun g h1 h2 => by omega)
    have hB := (Blk.made w 72 #[.int .i64 s.h, .int .i64 s.e, .int .i64 s.u, .int .i64 (gv s.r)])
    have hB1 : Blk w1 w.heap.size 72 #[.int .i64 s.h, .int .i64 s.e, .int .i64 s.u, .int .i64 (gv s.r)] :=
      (hg.block w.heap.size (by simp) (by simp [Value.ownBlock])).trans hB
    simp only [Nat.zero_add, List.nil_append] at hown ⊢
    obtain ⟨g, cur, rfl, hgb, _⟩ := hown.open_ (by omega)
    obtain ⟨v0, e0⟩ := get_some (l := xs) (k := i * 4) (by omega)
    obtain ⟨v1, e1⟩ := get_some (l := xs) (k := i * 4 + 1) (by omega)
    obtain ⟨v2, e2⟩ := get_some (l := xs) (k := i * 4 + 2) (by omega)
    obtain ⟨v3, e3⟩ := get_some (l := xs) (k := i * 4 + 3) (by omega)
    have c0 := hown.cell e0
    have c1 := hown.cell e1
    have c2 := hown.cell e2
    have c3 := hown.cell e3
    have f0 := hown.free (by omega) (i * 4)
    have f1 := hown.free (by omega) (i * 4 + 1)
    have f2 := hown.free (by omega) (i * 4 + 2)
    have f3 := hown.free (by omega) (i * 4 + 3)
    have b0 : w1.cell? ⟨w.heap.size, 0, none⟩ = some (.int .i64 s.h) := hB1.at_ 0
    have b1 : w1.cell? ⟨w.heap.size, 1, none⟩ = some (.int .i64 s.e) := hB1.at_ 1
    have b2 : w1.cell? ⟨w.heap.size, 2, none⟩ = some (.int .i64 s.u) := hB1.at_ 2
    have b3 : w1.cell? ⟨w.heap.size, 3, none⟩ = some (.int .i64 (gv s.r)) := hB1.at_ 3
    have HO := hid hown
    clear hown e0 e1 e2 e3 hB hB1 hg
    generalize (gv s.r) = r at *)
  go_ret
  refine ⟨_, _, rfl, ?_, (((hK1.setCell (fun h => absurd h (by simp; omega)) _).setCell (fun h => absurd h (by simp; omega)) _).setCell (fun h => absurd h (by simp; omega)) _).setCell (fun h => absurd h (by simp; omega)) _⟩
  have h4 := ((((HO.out.put (by omega) (i * 4) (.int .i64 s.h)).put (by omega) (i * 4 + 1) (.int .i64 s.e)).put (by omega) (i * 4 + 2) (.int .i64 s.u)).put (by omega) (i * 4 + 3) (.int .i64 r))
  rw [hS4.out] at h4
  exact h4.sl (fun g hg => by omega)
end Go.Proofs.Ytmkcphhgimlkgaa

import Derived.Test.YtmllpapkgfclkaaMore
import Derived.Test.YtmllpapkgfclkaaStep
import Derived.Test.YtmllpapkgfclkaaEnd
namespace Go.Proofs.Ytmllpapkgfclkaa
open Go.RowKit

/-! ## A table of growing rows of ints (a slice of slices of the call's own) -/
theorem EInt : Elem Try.prog 39 3 1 8 (.int .i64 0) := ⟨Try.underlying39, by kernel_rfl, rfl, by decide⟩
theorem EInts : Elem Try.prog 70 39 1 24 (.slice none 0 0) := ⟨Try.underlying70, by kernel_rfl, rfl, by decide⟩
def icT (l : List Int) : List Value := l.map (.int .i64)
/-- The block p holds the row headers V; the row at h holds the numbers L[h]; no two rows share a block. -/
structure Tbl (w : World) (base p : Nat) (V : List Value) (L : List (List Int)) : Prop where
  blk : Blk w p 39 V.toArray
  len : V.length = L.length
  own : ∀ (h : Nat) (v : Value) (l : List Int), V[h]? = some v → L[h]? = some l → Own w base 3 1 v l.length (icT l)
  off : ∀ (h : Nat) (v : Value), V[h]? = some v → v.ownBlock ≠ some p
  apart : ∀ (h k : Nat) (v u : Value), V[h]? = some v → V[k]? = some u → h ≠ k → ∀ g, v.ownBlock = some g → u.ownBlock ≠ some g

theorem rep_some {α : Type} {n i : Nat} {a x : α} (h : (List.replicate n a)[i]? = some x) : x = a := by
  rw [List.getElem?_replicate] at h
  split at h
  · exact (Option.some.inj h).symm
  · cases h
theorem Tbl.made (w : World) (base n : Nat) : Tbl (w.alloc (.cells (List.replicate n (Value.slice none 0 0)).toArray 39)) base w.heap.size (List.replicate n (.slice none 0 0)) (List.replicate n []) :=
  ⟨Blk.made w _ _, by simp, fun h v l hv hl => by
    rw [rep_some hv, rep_some hl]
    exact Own.nil _ _ _ _, fun h v hv => by
    rw [rep_some hv]
    simp [Value.ownBlock], fun h k v u hv _ _ g hg => by
    rw [rep_some hv] at hg
    simp [Value.ownBlock] at hg⟩
theorem Tbl.keep {S : Nat → Prop} {w w' : World} {base p : Nat} {V : List Value} {L : List (List Int)} (h : Tbl w base p V L) (hk : Keep S w w') (hp : ¬ S p) (hS : ∀ (h : Nat) (v : Value), V[h]? = some v → ∀ g, v.ownBlock = some g → ¬ S g) : Tbl w' base p V L :=
  ⟨h.blk.keep hk hp, h.len, fun i v l hv hl => (h.own i v l hv hl).keepB hk (hS i v hv), h.off, h.apart⟩
theorem Tbl.same {w w' : World} {base p : Nat} {V : List Value} {L : List (List Int)} (h : Tbl w base p V L) (hk : Same w w') : Tbl w' base p V L := h.keep hk (fun f => f) (fun _ _ _ _ _ f => f)
theorem Tbl.row {w : World} {base p : Nat} {V : List Value} {L : List (List Int)} (h : Tbl w base p V L) {k : Nat} {l : List Int} (hl : L[k]? = some l) : ∃ A c, V[k]? = some (.slice A l.length c) ∧ Own w base 3 1 (.slice A l.length c) l.length (icT l) ∧ w.cell? ⟨p, k, none⟩ = some (.slice A l.length c) := by
  have hk : k < V.length := by rw [h.len]; exact (List.getElem?_eq_some_iff.1 hl).1
  obtain ⟨v, hv⟩ := get_some hk
  have ho := h.own k v l hv hl
  obtain ⟨A, c, rfl⟩ := ho.shape
  exact ⟨A, c, hv, ho, (h.blk.at_ k).trans (by simpa using hv)⟩
theorem Tbl.blocks {w : World} {base p : Nat} {V : List Value} {L : List (List Int)} (h : Tbl w base p V L) {k : Nat} {v : Value} (hv : V[k]? = some v) : ∀ g, v.ownBlock = some g → base ≤ g ∧ g < w.heap.size := by
  have hk : k < L.length := by rw [← h.len]; exact (List.getElem?_eq_some_iff.1 hv).1
  obtain ⟨l, hl⟩ := get_some hk
  have ho := h.own k v l hv hl
  exact fun g hg => ⟨ho.block g hg, ho.lt g hg⟩
/-- The row at k grows (its header v, in the world w, becomes v' in w1), and the new header is stored. -/
theorem Tbl.add {w w1 : World} {base p : Nat} {V : List Value} {L : List (List Int)} (h : Tbl w base p V L) {k : Nat} {v v' : Value} {l news : List Int} (hv : V[k]? = some v) (hl : L[k]? = some l) (hg : w.grownBy w1 v.ownBlock)
    (ho : Own w1 base 3 1 v' (l ++ news).length (icT (l ++ news))) (hw : v'.ownBlock = v.ownBlock ∨ ∃ g, v'.ownBlock = some g ∧ w.heap.size ≤ g) : Tbl (w1.setCell ⟨p, k, none⟩ v') base p (V.set k v') (L.set k (l ++ news)) := by
  have hk1 : Keep (fun g => v.ownBlock = some g) w w1 := (Keep.refl _ w).grown hg (fun g e _ => e)
  have hp1 : Blk w1 p 39 V.toArray := h.blk.keep hk1 (h.off k v hv)
  have hp2 : Keep (· = p) w1 (w1.setCell ⟨p, k, none⟩ v') := (Keep.refl _ w1).put k v'
  have hpl := h.blk.lt
  have off' : v'.ownBlock ≠ some p := by
    rcases hw with e | ⟨g, e, hg⟩
    · rw [e]; exact h.off k v hv
    · rw [e]; intro x; injection x with x; omega
  have get : ∀ i u, (V.set k v')[i]? = some u → (i = k ∧ u = v') ∨ (i ≠ k ∧ V[i]? = some u) := fun i u hu => by
    rw [List.getElem?_set] at hu
    by_cases e : k = i
    · rw [if_pos e] at hu
      split at hu
      · exact .inl ⟨e.symm, (Option.some.inj hu).symm⟩
      · cases hu
    · rw [if_neg e] at hu; exact .inr ⟨fun x => e x.symm, hu⟩
  refine ⟨?_, by simp [h.len], ?_, ?_, ?_⟩
  · have := hp1.put k v'
    simpa using this
  · intro i u m hu hm
    rcases get i u hu with ⟨rfl, rfl⟩ | ⟨hi, hu⟩
    · have hlt : i < L.length := (List.getElem?_eq_some_iff.1 hl).1
      rw [List.getElem?_set_self hlt] at hm
      cases hm
      exact ho.keepB hp2 (fun g hg e => off' (by rw [hg, e]))
    · rw [List.getElem?_set_ne (fun x => hi x.symm)] at hm
      exact ((h.own i u m hu hm).keepB hk1 (fun g hg hs => h.apart i k u v hu hv hi g hg hs)).keepB hp2 (fun g hg e => h.off i u hu (by rw [hg, e]))
  · intro i u hu
    rcases get i u hu with ⟨_, rfl⟩ | ⟨_, hu⟩
    · exact off'
    · exact h.off i u hu
  · intro i j u x hu0 hx0 hij g hg
    rcases get i u hu0 with ⟨rfl, rfl⟩ | ⟨hi, hu⟩
    · rcases get j x hx0 with ⟨rfl, rfl⟩ | ⟨hj, hx⟩
      · exact absurd rfl hij
      · intro e
        rcases hw with q | ⟨g', q, hq⟩
        · exact h.apart i j v x hv hx hij g (q ▸ hg) e
        · have := (h.blocks hx g e).2
          rw [q] at hg; injection hg with hg; omega
    · rcases get j x hx0 with ⟨rfl, rfl⟩ | ⟨hj, hx⟩
      · intro e
        rcases hw with q | ⟨g', q, hq⟩
        · exact h.apart i j u v hu hv hij g hg (q ▸ e)
        · have := (h.blocks hu g hg).2
          rw [q] at e; injection e with e; omega
      · exact h.apart i j u x hu hx hij g hg
end Go.Proofs.Ytmllpapkgfclkaa

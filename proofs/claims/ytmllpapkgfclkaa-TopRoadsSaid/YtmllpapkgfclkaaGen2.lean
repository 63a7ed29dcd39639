import Derived.Test.YtmllpapkgfclkaaGen
namespace Go.Proofs.Ytmllpapkgfclkaa
open Go.RowKit
/-- The row of a slice of the call's own that is not empty. -/
theorem Own.open_ {w : World} {base : Nat} {e : TypeId} {size : Nat} {A : Option Addr} {n c : Nat} {xs : List Value} (h : Own w base e size (.slice A n c) n xs) (hn : 0 < n) :
    ∃ g cur, A = some ⟨g, 0, none⟩ ∧ base ≤ g ∧ Blk w g e cur ∧ n ≤ c ∧ c ≤ maxLen ∧ cur.size = c * size ∧ cur.toList.take (n * size) = xs := by
  rcases h.2 with ⟨_, h2⟩ | ⟨g, cap, cur, hv, hb, hh, h1, h2, h3, h4⟩
  · omega
  · injection hv with hA _ hc
    subst hc
    exact ⟨g, cur, hA, hb, hh, h1, h2, h3, h4⟩
theorem Own.of_blk {w : World} {base : Nat} {e : TypeId} {size : Nat} {n c g : Nat} {cur : Array Value} {xs : List Value} (hb : base ≤ g) (h : Blk w g e cur) (h1 : n ≤ c) (h2 : c ≤ maxLen) (h3 : cur.size = c * size) (h4 : cur.toList.take (n * size) = xs) :
    Own w base e size (.slice (some ⟨g, 0, none⟩) n c) n xs := by
  refine ⟨?_, .inr ⟨g, c, cur, rfl, hb, h, h1, h2, h3, h4⟩⟩
  have := Nat.mul_le_mul_right size h1
  rw [← h4, List.length_take, Array.length_toList, h3]; omega
/-- one cell of an owned row is written -/
theorem Own.put {w : World} {base : Nat} {e : TypeId} {size : Nat} {n c g : Nat} {xs : List Value} (h : Own w base e size (.slice (some ⟨g, 0, none⟩) n c) n xs) (hn : 0 < n) (k : Nat) (u : Value) :
    Own (w.setCell ⟨g, k, none⟩ u) base e size (.slice (some ⟨g, 0, none⟩) n c) n (xs.set k u) := by
  obtain ⟨g', cur, hA, hb, hB, h1, h2, h3, h4⟩ := h.open_ hn
  injection hA with hA
  injection hA with hA
  subst hA
  refine Own.of_blk hb (hB.put k u) h1 h2 (by simpa using h3) ?_
  rw [Array.toList_setIfInBounds, List.take_set, h4]
theorem Own.cell {w : World} {base : Nat} {e : TypeId} {size : Nat} {n c g : Nat} {xs : List Value} (h : Own w base e size (.slice (some ⟨g, 0, none⟩) n c) n xs) {k : Nat} {u : Value} (hk : xs[k]? = some u) : w.cell? ⟨g, k, none⟩ = some u := by
  have hl := (List.getElem?_eq_some_iff.1 hk).1
  have hn : 0 < n := by
    rcases Nat.eq_zero_or_pos n with h0 | h0
    · have := h.1; rw [h0] at this; omega
    · exact h0
  obtain ⟨g', cur, hA, hb, hB, h1, h2, h3, h4⟩ := h.open_ hn
  injection hA with hA
  injection hA with hA
  subst hA
  rw [hB.at_]
  rw [← h4, List.getElem?_take] at hk
  split at hk
  · simpa using hk
  · cases hk
theorem Own.free {w : World} {base : Nat} {e : TypeId} {size : Nat} {n c g : Nat} {xs : List Value} (h : Own w base e size (.slice (some ⟨g, 0, none⟩) n c) n xs) (hn : 0 < n) (k : Nat) : w.frozen? ⟨g, k, none⟩ = false := by
  obtain ⟨g', cur, hA, hb, hB, _⟩ := h.open_ hn
  injection hA with hA
  injection hA with hA
  subst hA
  exact hB.free k

/-- what append asks of a source that is read -/
theorem Sl.src {w w1 : World} {Av : Nat → Prop} {size n : Nat} {A : Option Addr} {xs : List Value} (h : Sl w Av size A n xs) (hk : Same w w1) : 0 < n → ∃ ad, A = some ad ∧ ∀ j u, xs[j]? = some u → w1.cell? (ad.add j) = some u := fun hn => by
  obtain ⟨b, off, rfl, _, _, hr⟩ := (h.same hk).at_ hn
  exact ⟨_, rfl, fun j u hu => by rw [add_blk]; exact hr j u hu⟩
theorem Own.slN {w : World} {base : Nat} {e : TypeId} {size : Nat} {A : Option Addr} {n c : Nat} {xs : List Value} (h : Own w base e size (.slice A n c) n xs) : Sl w (· < base) size A n xs := h.sl (fun g hg => by omega)
/-- what is read lies in an old block -/
theorem Sl.old {w : World} {Av : Nat → Prop} {size n : Nat} {A : Option Addr} {xs : List Value} (h : Sl w Av size A n xs) : Sl w (fun i => w.heap.size ≤ i) size A n xs :=
  ⟨h.len, fun hn => by
    obtain ⟨b, off, e, hb, _, hr⟩ := h.at_ hn
    exact ⟨b, off, e, hb, by omega, hr⟩⟩
theorem src_new2 {w : World} {o : Obj} {cs : Array Value} {t : TypeId} {news : List Value} (h : news = cs.toList) : ∀ j u, news[j]? = some u → ((w.alloc o).alloc (.cells cs t)).cell? ((⟨w.heap.size + 1, 0, none⟩ : Addr).add j) = some u := by
  have := src_new (w := w.alloc o) (cs := cs) (t := t) h
  rwa [World.size_alloc] at this
end Go.Proofs.Ytmllpapkgfclkaa

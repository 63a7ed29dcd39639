import Derived.Test.YtmllpapkgfclkaaEnd
import Derived.OpenShut
import Derived.Deep.Slices
namespace Go.Proofs.Ytmllpapkgfclkaa
open Go.ChangeShapes Go.WideShapes Go.ChangeAt Go.RowKit Go.Deep

theorem choose_list {α : Type} {p : Nat → α → Prop} : ∀ (n : Nat), (∀ i, i < n → ∃ a, p i a) → ∃ l : List α, l.length = n ∧ ∀ i a, l[i]? = some a → p i a
  | 0, _ => ⟨[], rfl, by simp⟩
  | n + 1, h => by
    obtain ⟨l, hl, hp⟩ := choose_list n (fun i hi => h i (by omega))
    obtain ⟨a, ha⟩ := h n (by omega)
    refine ⟨l ++ [a], by simp [hl], fun i x hx => ?_⟩
    by_cases hi : i < n
    · rw [List.getElem?_append_left (by omega)] at hx
      exact hp i x hx
    · have hlt := (List.getElem?_eq_some_iff.1 hx).1
      simp at hlt
      obtain rfl : i = n := by omega
      rw [List.getElem?_append_right (by omega), hl, Nat.sub_self] at hx
      simp at hx
      subst hx
      exact ha
theorem lt_of_cell {w : World} {a : Addr} {u : Value} (h : w.cell? a = some u) : a.block < w.heap.size ∧ a.spot = none := by
  unfold World.cell? at h
  split at h
  · rename_i c _ _ hb
    refine ⟨?_, ?_⟩
    · rcases Nat.lt_or_ge a.block w.heap.size with h1 | h1
      · exact h1
      · rw [Array.getElem?_eq_none h1] at hb; cases hb
    · split at h
      · cases h
      · rename_i hs
        simpa using hs
  · cases h
theorem add_add' (a : Addr) (i j : Nat) : (a.add i).add j = a.add (i + j) := by
  unfold Addr.add
  by_cases hi : i = 0 <;> by_cases hj : j = 0 <;> simp [hi, hj, Nat.add_assoc]

section
variable {H : Type} {enc : TypeId × Value → H} {P : Program} {w : World}
/-- A slice that came in: its elements by a reader of one element. -/
theorem open_sl {α : Type} {f : α → List Value} {G : α → Prop} {t e : TypeId} {k b0 : Nat} {r : Reach} {v : Value} {d : DataW H} {p : List MemPlace} (ht : P.underlying t = some (.slice e)) (hk : P.cellsOf e = k) (hkp : 0 < k) (hf : ∀ a, (f a).length = k)
    (hR : ∀ n cs x, DataW.trod enc P w 0 (fun _ => true) true n e cs = some x → ∃ a, cs = f a ∧ G a) (hv : Value.okWide P w r b0 t v) (h : DataW.Trod enc P w 0 (fun _ => true) true t v d p) :
    ∃ (A : Option Addr) (n c : Nat) (l : List α), v = .slice A n c ∧ l.length = n ∧ Sl w (fun _ => False) k A n (l.flatMap f) ∧ (∀ a ∈ l, G a) ∧ n ≤ c ∧ c ≤ maxLen := by
  obtain ⟨A, n, c, rfl⟩ := okWide_slice ht hv
  obtain ⟨fuel, hfu⟩ := h
  simp only [Value.cells] at hfu
  rcases open_slice ht hfu with ⟨hcs, _⟩ | ⟨a, len, cap, m, n', D, Pl, hcs, _, hl, hm, hmm, _, hi⟩
  · simp at hcs
    obtain ⟨rfl, rfl, rfl⟩ := hcs
    exact ⟨none, 0, 0, [], rfl, rfl, Sl.nil _ _ _ _, by simp, Nat.le_refl _, by simp [maxLen]⟩
  · simp at hcs
    obtain ⟨rfl, rfl, rfl⟩ := hcs
    have hme : m = c := by simpa using hmm
    rw [hk] at hi
    obtain ⟨l, hll, hlp⟩ := choose_list (α := α) (p := fun i x => G x ∧ ∀ j u, (f x)[j]? = some u → w.cell? (a.add (i * k + j)) = some u) n (fun i hin => by
      obtain ⟨cs', hc, ht'⟩ := hi i (by omega)
      obtain ⟨x, rfl, hG⟩ := hR _ _ _ ht'
      obtain ⟨_, hlen, hat⟩ := World.cells?_some hc
      refine ⟨x, hG, fun j u hu => ?_⟩
      have hj := (List.getElem?_eq_some_iff.1 hu).1
      rw [← add_add', hat j (by omega), hu])
    refine ⟨some a, n, c, l, rfl, hll, ⟨by rw [flat_len f k hf, hll], fun hn => ?_⟩, ?_, hl, hm⟩
    · have hat : ∀ j u, (l.flatMap f)[j]? = some u → w.cell? (a.add j) = some u := by
        intro j u hu
        have hj := (List.getElem?_eq_some_iff.1 hu).1
        rw [flat_len f k hf] at hj
        have hq : j / k < l.length := by rw [Nat.div_lt_iff_lt_mul hkp]; exact hj
        have hg := flat_get f k hf l (j / k) (j % k) (Nat.mod_lt _ hkp)
        rw [Nat.div_add_mod' j k] at hg
        rw [hg, List.getElem?_eq_getElem hq] at hu
        have := (hlp (j / k) _ (List.getElem?_eq_getElem hq)).2 (j % k) u hu
        rwa [Nat.div_add_mod' j k] at this
      have h0 : 0 < (l.flatMap f).length := by rw [flat_len f k hf, hll]; exact Nat.mul_pos hn hkp
      have hc0 := hat 0 _ (List.getElem?_eq_getElem h0)
      have ha0 : a.add 0 = a := by simp [Addr.add]
      rw [ha0] at hc0
      obtain ⟨hb, hs⟩ := lt_of_cell hc0
      obtain ⟨b, off, sp⟩ := a
      simp only at hs hb
      subst hs
      exact ⟨b, off, rfl, hb, fun f => f, fun j u hu => by rw [← add_blk]; exact hat j u hu⟩
    · intro x hx
      obtain ⟨i, hi', rfl⟩ := List.getElem_of_mem hx
      exact (hlp i _ (List.getElem?_eq_getElem hi')).1

/-- one field of a struct -/
theorem field_int {fs : Array Field} {n : Nat} {cs : List Value} {x : DataW H × List MemPlace} {e : TypeId} (he : P.underlying e = some (.struct fs)) (h : DataW.trod enc P w 0 (fun _ => true) true n e cs = some x) (j : Nat) {fl : Field} {k : IntKind}
    (hj : fs[j]? = some fl) (hu : P.underlying fl.type = some (.int k)) (h1 : P.cellsOf fl.type = 1) : ∃ a, cs[fl.offset]? = some (.int k a) ∧ (Lit.int k a).wf = true := by
  obtain ⟨xs, m, _, _, _, hlen, hf⟩ := DataW.trod_struct he h
  have hjl := (Array.getElem?_eq_some_iff.1 hj).1
  have hg := hf j fl hj
  rw [h1] at hg
  obtain ⟨y, hy⟩ := get_some (l := xs) (k := j) (by omega)
  rw [hy] at hg
  obtain ⟨a, ha, _, hw⟩ := DataW.trod_int hu hg
  refine ⟨a, ?_, hw⟩
  have : (List.take 1 (List.drop fl.offset cs))[0]? = some (.int k a) := by rw [ha]; rfl
  simpa using this
theorem open_ints_sl {t e : TypeId} {k : IntKind} {b0 : Nat} {r : Reach} {v : Value} {d : DataW H} {p : List MemPlace} (ht : P.underlying t = some (.slice e)) (he : P.underlying e = some (.int k)) (hc : P.cellsOf e = 1)
    (hv : Value.okWide P w r b0 t v) (h : DataW.Trod enc P w 0 (fun _ => true) true t v d p) :
    ∃ (A : Option Addr) (n c : Nat) (l : List Int), v = .slice A n c ∧ l.length = n ∧ Sl w (fun _ => False) 1 A n (l.map (Value.int k)) ∧ (∀ a ∈ l, (Lit.int k a).wf = true) ∧ n ≤ c ∧ c ≤ maxLen := by
  have := open_sl (f := fun a => [Value.int k a]) (G := fun a => (Lit.int k a).wf = true) ht hc (by decide) (fun _ => rfl) (fun n cs x h => by
    obtain ⟨a, ha, _, hw⟩ := DataW.trod_int he h
    exact ⟨a, ha, hw⟩) hv h
  obtain ⟨A, n, c, l, h1, h2, h3, h4⟩ := this
  refine ⟨A, n, c, l, h1, h2, ?_, h4⟩
  have e : ∀ l : List Int, l.flatMap (fun a => [Value.int k a]) = l.map (Value.int k) := by intro l; induction l <;> simp_all [List.flatMap_cons]
  rwa [e] at h3
end
end Go.Proofs.Ytmllpapkgfclkaa

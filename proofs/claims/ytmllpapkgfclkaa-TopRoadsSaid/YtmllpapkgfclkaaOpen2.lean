import Derived.Test.YtmllpapkgfclkaaOpen
namespace Go.Proofs.Ytmllpapkgfclkaa
open Go.ChangeShapes Go.WideShapes Go.ChangeAt Go.RowKit Go.Deep

section
variable {H : Type} {enc : TypeId × Value → H} {P : Program} {w : World}
/-- A slice inside a struct: the reading of one cell. -/
theorem sl_trod {α : Type} {f : α → List Value} {G : α → Prop} {t e : TypeId} {k fuel : Nat} {cs : List Value} {x : DataW H × List MemPlace} (ht : P.underlying t = some (.slice e)) (hk : P.cellsOf e = k) (hkp : 0 < k) (hf : ∀ a, (f a).length = k)
    (hR : ∀ n cs x, DataW.trod enc P w 0 (fun _ => true) true n e cs = some x → ∃ a, cs = f a ∧ G a) (h : DataW.trod enc P w 0 (fun _ => true) true fuel t cs = some x) :
    ∃ (A : Option Addr) (n c : Nat) (l : List α), cs = [.slice A n c] ∧ l.length = n ∧ Sl w (fun _ => False) k A n (l.flatMap f) ∧ (∀ a ∈ l, G a) ∧ n ≤ c ∧ c ≤ maxLen := by
  rcases open_slice ht h with ⟨hcs, _⟩ | ⟨a, len, cap, m, n', D, Pl, hcs, _, hl, hm, hmm, _, hi⟩
  · subst hcs
    exact ⟨none, 0, 0, [], rfl, rfl, Sl.nil _ _ _ _, by simp, Nat.le_refl _, by simp [maxLen]⟩
  · have hme : m = cap := by simpa using hmm
    rw [hk] at hi
    obtain ⟨l, hll, hlp⟩ := choose_list (α := α) (p := fun i x => G x ∧ ∀ j u, (f x)[j]? = some u → w.cell? (a.add (i * k + j)) = some u) len (fun i hin => by
      obtain ⟨cs', hc, ht'⟩ := hi i (by omega)
      obtain ⟨x, rfl, hG⟩ := hR _ _ _ ht'
      obtain ⟨_, hlen, hat⟩ := World.cells?_some hc
      refine ⟨x, hG, fun j u hu => ?_⟩
      have hj := (List.getElem?_eq_some_iff.1 hu).1
      rw [← add_add', hat j (by omega), hu])
    refine ⟨some a, len, cap, l, hcs, hll, ⟨by rw [flat_len f k hf, hll], fun hn => ?_⟩, ?_, hl, hm⟩
    · have hat : ∀ j u, (l.flatMap f)[j]? = some u → w.cell? (a.add j) = some u := by
        intro j u hu
        have hj := (List.getElem?_eq_some_iff.1 hu).1
        rw [flat_len f k hf] at hj
        have hq : j / k < l.length := by rw [Nat.div_lt_iff_lt_mul hkp]; exact hj
        have hg := flat_get f k hf l (j / k) (j % k) (Nat.mod_lt _ hkp)
        rw [Nat.div_add_mod' j k] at hg
        rw [hg, List.getElem?_eq_getElem hq] at hu
        have := (hlp (j / k) _ (List.getElem?_eq_getElem hq)).2 (j % k) u hu
        rwa [Nat.div_add_mod' j k] at this
      have h0 : 0 < (l.flatMap f).length := by rw [flat_len f k hf, hll]; exact Nat.mul_pos hn hkp
      have hc0 := hat 0 _ (List.getElem?_eq_getElem h0)
      have ha0 : a.add 0 = a := by simp [Addr.add]
      rw [ha0] at hc0
      obtain ⟨hb, hs⟩ := lt_of_cell hc0
      obtain ⟨b, off, sp⟩ := a
      simp only at hs hb
      subst hs
      exact ⟨b, off, rfl, hb, fun f => f, fun j u hu => by rw [← add_blk]; exact hat j u hu⟩
    · intro x hx
      obtain ⟨i, hi', rfl⟩ := List.getElem_of_mem hx
      exact (hlp i _ (List.getElem?_eq_getElem hi')).1
theorem ints_flat (k : IntKind) (l : List Int) : l.flatMap (fun a => [Value.int k a]) = l.map (Value.int k) := by induction l <;> simp_all [List.flatMap_cons]
theorem sl_trod_ints {t e : TypeId} {k : IntKind} {fuel : Nat} {cs : List Value} {x : DataW H × List MemPlace} (ht : P.underlying t = some (.slice e)) (he : P.underlying e = some (.int k)) (hc : P.cellsOf e = 1) (h : DataW.trod enc P w 0 (fun _ => true) true fuel t cs = some x) :
    ∃ (A : Option Addr) (n c : Nat) (l : List Int), cs = [.slice A n c] ∧ l.length = n ∧ Sl w (fun _ => False) 1 A n (l.map (Value.int k)) ∧ (∀ a ∈ l, (Lit.int k a).wf = true) ∧ n ≤ c ∧ c ≤ maxLen := by
  obtain ⟨A, n, c, l, h1, h2, h3, h4⟩ := sl_trod (f := fun a => [Value.int k a]) (G := fun a => (Lit.int k a).wf = true) ht hc (by decide) (fun _ => rfl) (fun n cs x h => by
    obtain ⟨a, ha, _, hw⟩ := DataW.trod_int he h
    exact ⟨a, ha, hw⟩) h
  exact ⟨A, n, c, l, h1, h2, by rwa [ints_flat] at h3, h4⟩
/-- any one-cell field of a struct -/
theorem field_at {fs : Array Field} {n : Nat} {cs : List Value} {x : DataW H × List MemPlace} {e : TypeId} (he : P.underlying e = some (.struct fs)) (h : DataW.trod enc P w 0 (fun _ => true) true n e cs = some x) (j : Nat) {fl : Field}
    (hj : fs[j]? = some fl) (h1 : P.cellsOf fl.type = 1) : ∃ m y, DataW.trod enc P w 0 (fun _ => true) true m fl.type ((cs.drop fl.offset).take 1) = some y := by
  obtain ⟨xs, m, _, _, _, hlen, hf⟩ := DataW.trod_struct he h
  have hjl := (Array.getElem?_eq_some_iff.1 hj).1
  have hg := hf j fl hj
  rw [h1] at hg
  obtain ⟨y, hy⟩ := get_some (l := xs) (k := j) (by omega)
  exact ⟨m, y, hg.trans hy⟩
theorem at_of_take {cs : List Value} {o : Nat} {v : Value} (h : (cs.drop o).take 1 = [v]) : cs[o]? = some v := by
  have : ((cs.drop o).take 1)[0]? = some v := by rw [h]; rfl
  simpa using this
end
end Go.Proofs.Ytmllpapkgfclkaa

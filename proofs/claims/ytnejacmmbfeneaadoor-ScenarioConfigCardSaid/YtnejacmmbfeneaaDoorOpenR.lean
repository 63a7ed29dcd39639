import Derived.Test.YtnejacmmbfeneaaDoorOpen2
namespace Go.Proofs.YtnejacmmbfeneaaDoor
open Go.ChangeShapes Go.WideShapes Go.ChangeAt Go.RowKit Go.Deep

/-! ## Opening, with the reach of what came in -/
/-- each string and slice of a datum takes at most the reach -/
def Fits {H : Type} (P : Program) (t : TypeId) (d : DataW H) : Prop := ∀ n ∈ d.weights P t, n ≤ reachBytes
section
variable {H : Type} {enc : TypeId × Value → H} {P : Program} {w : World}
theorem fits_of {ts : List TypeId} {ds : List (DataW H)} (h : (DataW.weightsEach P ts ds).all (· ≤ reachBytes) = true) {j : Nat} {t : TypeId} {d : DataW H} (ht : ts[j]? = some t) (hd : ds[j]? = some d) : Fits P t d := fun n hn => by
  simpa using List.all_eq_true.1 h _ (DataW.weights_mem_each ht hd n hn)
theorem weights_all_mem {e : TypeId} {d : DataW H} : ∀ {l : List (DataW H)}, d ∈ l → ∀ n ∈ d.weights P e, n ∈ DataW.weightsAll P e l
  | x :: l, h, n, hn => by
    simp only [DataW.weightsAll, List.mem_append]
    rcases List.mem_cons.1 h with rfl | h
    · exact .inl hn
    · exact .inr (weights_all_mem h n hn)
theorem Fits.slice {t e : TypeId} {el sp : List (DataW H)} (ht : P.underlying t = some (.slice e)) (h : Fits P t (.slice el sp)) : (el.length + sp.length) * P.bytesOf e ≤ reachBytes ∧ ∀ d ∈ el, Fits P e d := by
  have hw : DataW.weights P t (.slice el sp) = (el.length + sp.length) * P.bytesOf e :: (DataW.weightsAll P e el ++ DataW.weightsAll P e sp) := by simp [DataW.weights, ht]
  refine ⟨h _ (by rw [hw]; simp), fun d hd n hn => h _ (by rw [hw]; simp [weights_all_mem hd n hn])⟩
theorem Fits.field {t : TypeId} {fs : Array Field} {parts : List (DataW H)} (ht : P.underlying t = some (.struct fs)) (h : Fits P t (.agg parts)) {j : Nat} {fl : Field} (hj : fs[j]? = some fl) {d : DataW H} (hd : parts[j]? = some d) : Fits P fl.type d := by
  have hw : DataW.weights P t (.agg parts) = DataW.weightsEach P (fs.toList.map (·.type)) parts := by simp [DataW.weights, ht]
  intro n hn
  exact h n (by rw [hw]; exact DataW.weights_mem_each (by rw [List.getElem?_map, Array.getElem?_toList, hj]; rfl) hd n hn)
theorem Fits.string {t : TypeId} {bs : List UInt8} (h : Fits P t (.lit (.string bs) : DataW H)) : bs.length ≤ reachBytes := h _ (by simp [DataW.weights])

theorem sl_trodR {α : Type} {f : α → List Value} {G : α → Prop} {t e : TypeId} {k fuel : Nat} {cs : List Value} {x : DataW H × List MemPlace} (ht : P.underlying t = some (.slice e)) (hk : P.cellsOf e = k) (hkp : 0 < k) (hf : ∀ a, (f a).length = k) (hfit : Fits P t x.1)
    (hR : ∀ n cs x, DataW.trod enc P w 0 (fun _ => true) true n e cs = some x → Fits P e x.1 → ∃ a, cs = f a ∧ G a) (h : DataW.trod enc P w 0 (fun _ => true) true fuel t cs = some x) :
    ∃ (A : Option Addr) (n c : Nat) (l : List α), cs = [.slice A n c] ∧ l.length = n ∧ Sl w (fun _ => False) k A n (l.flatMap f) ∧ (∀ a ∈ l, G a) ∧ n ≤ c ∧ c ≤ maxLen ∧ n * P.bytesOf e ≤ reachBytes := by
  rcases open_slice ht h with ⟨hcs, hx⟩ | ⟨a, len, cap, m, n', D, Pl, hcs, _, hl, hm, hmm, hx, hi⟩
  · subst hcs hx
    exact ⟨none, 0, 0, [], rfl, rfl, Sl.nil _ _ _ _, by simp, Nat.le_refl _, by simp [maxLen], by simp⟩
  · rw [hx] at hfit
    obtain ⟨hf1, hf2⟩ := hfit.slice ht
    rw [hk] at hi
    have hme : m = cap := by simpa using hmm
    obtain ⟨l, hll, hlp⟩ := choose_list (α := α) (p := fun i x => G x ∧ ∀ j u, (f x)[j]? = some u → w.cell? (a.add (i * k + j)) = some u) len (fun i hin => by
      obtain ⟨cs', hc, ht'⟩ := hi i (by omega)
      obtain ⟨x, rfl, hG⟩ := hR _ _ _ ht' (hf2 _ (List.mem_map.2 ⟨i, by simp [hin], rfl⟩))
      obtain ⟨_, hlen, hat⟩ := World.cells?_some hc
      refine ⟨x, hG, fun j u hu => ?_⟩
      have hj := (List.getElem?_eq_some_iff.1 hu).1
      rw [← add_add', hat j (by omega), hu])
    refine ⟨some a, len, cap, l, hcs, hll, ⟨by rw [flat_len f k hf, hll], fun hn => ?_⟩, ?_, hl, hm, ?_⟩
    · have hat : ∀ j u, (l.flatMap f)[j]? = some u → w.cell? (a.add j) = some u := by
        intro j u hu
        have hj := (List.getElem?_eq_some_iff.1 hu).1
        rw [flat_len f k hf] at hj
        have hq : j / k < l.length := by rw [Nat.div_lt_iff_lt_mul hkp]; exact hj
        have hg := flat_get f k hf l (j / k) (j % k) (Nat.mod_lt _ hkp)
        rw [Nat.div_add_mod' j k] at hg
        rw [hg, List.getElem?_eq_getElem hq] at hu
        have := (hlp (j / k) _ (List.getElem?_eq_getElem hq)).2 (j % k) u hu
        rwa [Nat.div_add_mod' j k] at this
      have h0 : 0 < (l.flatMap f).length := by rw [flat_len f k hf, hll]; exact Nat.mul_pos hn hkp
      have hc0 := hat 0 _ (List.getElem?_eq_getElem h0)
      have ha0 : a.add 0 = a := by simp [Addr.add]
      rw [ha0] at hc0
      obtain ⟨hb, hs⟩ := lt_of_cell hc0
      obtain ⟨b, off, sp⟩ := a
      simp only at hs hb
      subst hs
      exact ⟨b, off, rfl, hb, fun f => f, fun j u hu => by rw [← add_blk]; exact hat j u hu⟩
    · intro x hx
      obtain ⟨i, hi', rfl⟩ := List.getElem_of_mem hx
      exact (hlp i _ (List.getElem?_eq_getElem hi')).1
    · refine Nat.le_trans (Nat.mul_le_mul_right _ ?_) hf1
      simp
theorem open_slR {α : Type} {f : α → List Value} {G : α → Prop} {t e : TypeId} {k b0 : Nat} {r : Reach} {v : Value} {d : DataW H} {p : List MemPlace} (ht : P.underlying t = some (.slice e)) (hk : P.cellsOf e = k) (hkp : 0 < k) (hf : ∀ a, (f a).length = k) (hfit : Fits P t d)
    (hR : ∀ n cs x, DataW.trod enc P w 0 (fun _ => true) true n e cs = some x → Fits P e x.1 → ∃ a, cs = f a ∧ G a) (hv : Value.okWide P w r b0 t v) (h : DataW.Trod enc P w 0 (fun _ => true) true t v d p) :
    ∃ (A : Option Addr) (n c : Nat) (l : List α), v = .slice A n c ∧ l.length = n ∧ Sl w (fun _ => False) k A n (l.flatMap f) ∧ (∀ a ∈ l, G a) ∧ n ≤ c ∧ c ≤ maxLen ∧ n * P.bytesOf e ≤ reachBytes := by
  obtain ⟨A, n, c, rfl⟩ := okWide_slice ht hv
  obtain ⟨fuel, hfu⟩ := h
  simp only [Value.cells] at hfu
  obtain ⟨A', n', c', l, h1, h2⟩ := sl_trodR ht hk hkp hf hfit hR hfu
  simp at h1
  obtain ⟨rfl, rfl, rfl⟩ := h1
  exact ⟨_, _, _, l, rfl, h2⟩
/-- a field, with its reach -/
theorem field_atR {fs : Array Field} {n : Nat} {cs : List Value} {x : DataW H × List MemPlace} {e : TypeId} (he : P.underlying e = some (.struct fs)) (hfit : Fits P e x.1) (h : DataW.trod enc P w 0 (fun _ => true) true n e cs = some x) (j : Nat) {fl : Field}
    (hj : fs[j]? = some fl) (h1 : P.cellsOf fl.type = 1) : ∃ m y, DataW.trod enc P w 0 (fun _ => true) true m fl.type ((cs.drop fl.offset).take 1) = some y ∧ Fits P fl.type y.1 := by
  obtain ⟨xs, m, _, hx, _, hlen, hf⟩ := DataW.trod_struct he h
  have hjl := (Array.getElem?_eq_some_iff.1 hj).1
  have hg := hf j fl hj
  rw [h1] at hg
  obtain ⟨y, hy⟩ := get_some (l := xs) (k := j) (by omega)
  refine ⟨m, y, hg.trans hy, ?_⟩
  rw [hx] at hfit
  exact hfit.field he hj (by rw [List.getElem?_map, hy]; rfl)
end
end Go.Proofs.YtnejacmmbfeneaaDoor

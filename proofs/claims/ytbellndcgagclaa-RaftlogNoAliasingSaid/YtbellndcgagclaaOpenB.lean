import Derived.Test.YtbellndcgagclaaOpen2
namespace Go.Proofs.Ytbellndcgagclaa
open Go.ChangeShapes Go.WideShapes Go.ChangeAt Go.RowKit Go.Deep

/-! ## Opening, with the bulk of what came in -/
theorem bulk_part {H : Type} {d : DataW H} {l : List (DataW H)} (h : d ∈ l) : Rows.uptoBulk d ≤ Rows.uptoBulkAll l := by
  induction l with
  | nil => cases h
  | cons x r ih =>
    simp only [Rows.uptoBulkAll]
    cases List.mem_cons.1 h with
    | inl e => subst e; omega
    | inr e => have := ih e; omega
theorem bulk_append {H : Type} (l r : List (DataW H)) : Rows.uptoBulkAll (l ++ r) = Rows.uptoBulkAll l + Rows.uptoBulkAll r := by
  induction l with
  | nil => simp [Rows.uptoBulkAll]
  | cons x l ih => simp only [List.cons_append, Rows.uptoBulkAll, ih]; omega
theorem bulk_sum {H : Type} {α : Type} (g : α → Nat) : ∀ (l : List α) (D : Nat → DataW H), (∀ i a, l[i]? = some a → g a ≤ Rows.uptoBulk (D i)) → (l.map g).sum ≤ Rows.uptoBulkAll ((List.range l.length).map D)
  | [], D, _ => by simp [Rows.uptoBulkAll]
  | a :: l, D, h => by
    have h0 := h 0 a rfl
    have h1 := bulk_sum g l (fun i => D (i + 1)) (fun i b hb => h (i + 1) b (by simpa using hb))
    rw [List.length_cons, List.range_succ_eq_map]
    simp only [List.map_cons, List.sum_cons, Rows.uptoBulkAll]
    have e : List.map D (List.map Nat.succ (List.range l.length)) = (List.range l.length).map (fun i => D (i + 1)) := by rw [List.map_map]; rfl
    rw [e]
    omega
theorem sum_len {α : Type} (g : α → Nat) (hg : ∀ a, 1 ≤ g a) : ∀ l : List α, l.length ≤ (l.map g).sum
  | [] => by simp
  | a :: l => by have := sum_len g hg l; have := hg a; simp; omega
theorem sum_mem {α : Type} (g : α → Nat) : ∀ {l : List α} {a : α}, a ∈ l → g a ≤ (l.map g).sum
  | b :: l, a, h => by
    rcases List.mem_cons.1 h with rfl | h
    · simp
    · have := sum_mem g h; simp; omega

section
variable {H : Type} {enc : TypeId × Value → H} {P : Program} {w : World}
theorem sl_trodB {α : Type} {f : α → List Value} {G : α → Prop} {g : α → Nat} {t e : TypeId} {k fuel : Nat} {cs : List Value} {x : DataW H × List MemPlace} (ht : P.underlying t = some (.slice e)) (hk : P.cellsOf e = k) (hkp : 0 < k) (hf : ∀ a, (f a).length = k)
    (hR : ∀ n cs x, DataW.trod enc P w 0 (fun _ => true) true n e cs = some x → ∃ a, cs = f a ∧ G a ∧ g a ≤ Rows.uptoBulk x.1) (h : DataW.trod enc P w 0 (fun _ => true) true fuel t cs = some x) :
    ∃ (A : Option Addr) (n c : Nat) (l : List α), cs = [.slice A n c] ∧ l.length = n ∧ Sl w (fun _ => False) k A n (l.flatMap f) ∧ (∀ a ∈ l, G a) ∧ n ≤ c ∧ c ≤ maxLen ∧ (l.map g).sum + 1 ≤ Rows.uptoBulk x.1 := by
  rcases open_slice ht h with ⟨hcs, hx⟩ | ⟨a, len, cap, m, n', D, Pl, hcs, _, hl, hm, hmm, hx, hi⟩
  · subst hcs hx
    exact ⟨none, 0, 0, [], rfl, rfl, Sl.nil _ _ _ _, by simp, Nat.le_refl _, by simp [maxLen], by simp [Rows.uptoBulk]⟩
  · have hme : m = cap := by simpa using hmm
    rw [hk] at hi
    obtain ⟨l, hll, hlp⟩ := choose_list (α := α) (p := fun i x => (G x ∧ g x ≤ Rows.uptoBulk (D i)) ∧ ∀ j u, (f x)[j]? = some u → w.cell? (a.add (i * k + j)) = some u) len (fun i hin => by
      obtain ⟨cs', hc, ht'⟩ := hi i (by omega)
      obtain ⟨x, rfl, hG⟩ := hR _ _ _ ht'
      obtain ⟨_, hlen, hat⟩ := World.cells?_some hc
      refine ⟨x, hG, fun j u hu => ?_⟩
      have hj := (List.getElem?_eq_some_iff.1 hu).1
      rw [← add_add', hat j (by omega), hu])
    refine ⟨some a, len, cap, l, hcs, hll, ⟨by rw [flat_len f k hf, hll], fun hn => ?_⟩, ?_, hl, hm, ?_⟩
    · have hat : ∀ j u, (l.flatMap f)[j]? = some u → w.cell? (a.add j) = some u := by
        intro j u hu
        have hj := (List.getElem?_eq_some_iff.1 hu).1
        rw [flat_len f k hf] at hj
        have hq : j / k < l.length := by rw [Nat.div_lt_iff_lt_mul hkp]; exact hj
        have hg := flat_get f k hf l (j / k) (j % k) (Nat.mod_lt _ hkp)
        rw [Nat.div_add_mod' j k] at hg
        rw [hg, List.getElem?_eq_getElem hq] at hu
        have := (hlp (j / k) _ (List.getElem?_eq_getElem hq)).2 (j % k) u hu
        rwa [Nat.div_add_mod' j k] at this
      have h0 : 0 < (l.flatMap f).length := by rw [flat_len f k hf, hll]; exact Nat.mul_pos hn hkp
      have hc0 := hat 0 _ (List.getElem?_eq_getElem h0)
      have ha0 : a.add 0 = a := by simp [Addr.add]
      rw [ha0] at hc0
      obtain ⟨hb, hs⟩ := lt_of_cell hc0
      obtain ⟨b, off, sp⟩ := a
      simp only at hs hb
      subst hs
      exact ⟨b, off, rfl, hb, fun f => f, fun j u hu => by rw [← add_blk]; exact hat j u hu⟩
    · intro x hx
      obtain ⟨i, hi', rfl⟩ := List.getElem_of_mem hx
      exact (hlp i _ (List.getElem?_eq_getElem hi')).1.1
    · rw [hx]
      simp only [Rows.uptoBulk]
      have := bulk_sum g l D (fun i a ha => (hlp i a ha).1.2)
      rw [hll] at this
      omega
theorem open_slB {α : Type} {f : α → List Value} {G : α → Prop} {g : α → Nat} {t e : TypeId} {k b0 : Nat} {r : Reach} {v : Value} {d : DataW H} {p : List MemPlace} (ht : P.underlying t = some (.slice e)) (hk : P.cellsOf e = k) (hkp : 0 < k) (hf : ∀ a, (f a).length = k)
    (hR : ∀ n cs x, DataW.trod enc P w 0 (fun _ => true) true n e cs = some x → ∃ a, cs = f a ∧ G a ∧ g a ≤ Rows.uptoBulk x.1) (hv : Value.okWide P w r b0 t v) (h : DataW.Trod enc P w 0 (fun _ => true) true t v d p) :
    ∃ (A : Option Addr) (n c : Nat) (l : List α), v = .slice A n c ∧ l.length = n ∧ Sl w (fun _ => False) k A n (l.flatMap f) ∧ (∀ a ∈ l, G a) ∧ n ≤ c ∧ c ≤ maxLen ∧ (l.map g).sum + 1 ≤ Rows.uptoBulk d := by
  obtain ⟨A, n, c, rfl⟩ := okWide_slice ht hv
  obtain ⟨fuel, hfu⟩ := h
  simp only [Value.cells] at hfu
  obtain ⟨A', n', c', l, h1, h2⟩ := sl_trodB ht hk hkp hf hR hfu
  simp at h1
  obtain ⟨rfl, rfl, rfl⟩ := h1
  exact ⟨_, _, _, l, rfl, h2⟩
theorem sl_trod_intsB {t e : TypeId} {k : IntKind} {fuel : Nat} {cs : List Value} {x : DataW H × List MemPlace} (ht : P.underlying t = some (.slice e)) (he : P.underlying e = some (.int k)) (hc : P.cellsOf e = 1) (h : DataW.trod enc P w 0 (fun _ => true) true fuel t cs = some x) :
    ∃ (A : Option Addr) (n c : Nat) (l : List Int), cs = [.slice A n c] ∧ l.length = n ∧ Sl w (fun _ => False) 1 A n (l.map (Value.int k)) ∧ (∀ a ∈ l, (Lit.int k a).wf = true) ∧ n ≤ c ∧ c ≤ maxLen ∧ n + 1 ≤ Rows.uptoBulk x.1 := by
  obtain ⟨A, n, c, l, h1, h2, h3, h4, h5, h6, h7⟩ := sl_trodB (f := fun a => [Value.int k a]) (G := fun a => (Lit.int k a).wf = true) (g := fun _ => 1) ht hc (by decide) (fun _ => rfl) (fun n cs x h => by
    obtain ⟨a, ha, hx, hw⟩ := DataW.trod_int he h
    exact ⟨a, ha, hw, by rw [hx]; simp [Rows.uptoBulk]⟩) h
  refine ⟨A, n, c, l, h1, h2, by rwa [ints_flat] at h3, h4, h5, h6, ?_⟩
  have := sum_len (fun _ : Int => 1) (fun _ => Nat.le_refl _) l
  omega
/-- a field, with its bulk -/
theorem field_atB {fs : Array Field} {n : Nat} {cs : List Value} {x : DataW H × List MemPlace} {e : TypeId} (he : P.underlying e = some (.struct fs)) (h : DataW.trod enc P w 0 (fun _ => true) true n e cs = some x) (j : Nat) {fl : Field}
    (hj : fs[j]? = some fl) (h1 : P.cellsOf fl.type = 1) : ∃ m y, DataW.trod enc P w 0 (fun _ => true) true m fl.type ((cs.drop fl.offset).take 1) = some y ∧ Rows.uptoBulk y.1 + 1 ≤ Rows.uptoBulk x.1 := by
  obtain ⟨xs, m, _, hx, _, hlen, hf⟩ := DataW.trod_struct he h
  have hjl := (Array.getElem?_eq_some_iff.1 hj).1
  have hg := hf j fl hj
  rw [h1] at hg
  obtain ⟨y, hy⟩ := get_some (l := xs) (k := j) (by omega)
  refine ⟨m, y, hg.trans hy, ?_⟩
  rw [hx]
  simp only [Rows.uptoBulk]
  have := bulk_part (d := y.1) (l := xs.map (·.1)) (List.mem_map.2 ⟨y, List.mem_of_getElem? hy, rfl⟩)
  omega
theorem bulk_pos {H : Type} (d : DataW H) : 1 ≤ Rows.uptoBulk d := by
  cases d with
  | lit l => cases l <;> simp [Rows.uptoBulk]
  | nil => simp [Rows.uptoBulk]
  | ptr d => simp [Rows.uptoBulk]
  | slice elems spare => simp [Rows.uptoBulk]
  | agg parts => simp [Rows.uptoBulk]
  | iface t d => simp [Rows.uptoBulk]
  | map entries => simp [Rows.uptoBulk]
  | held h => simp [Rows.uptoBulk]
end
end Go.Proofs.Ytbellndcgagclaa

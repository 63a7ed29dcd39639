import Derived.Test.YtmllpapkgfclkaaGen2
import Derived.Laws.IdiomCopy
namespace Go.Proofs.Ytmllpapkgfclkaa
open Go.RowKit

/-! ## Slices of slices; append and clear on a row -/
/-- the address of s[l:] -/
def cutA (A : Option Addr) (c l k : Nat) : Option Addr := if c = l then A else A.map (·.add (l * k))

theorem Row.drop {w : World} {b off : Nat} {cs : List Value} (h : Row w b off cs) (l : Nat) : Row w b (off + l) (cs.drop l) := by
  intro j u hu
  rw [List.getElem?_drop] at hu
  rw [Nat.add_assoc]
  exact h _ _ hu
theorem Row.take {w : World} {b off : Nat} {cs : List Value} (h : Row w b off cs) (l : Nat) : Row w b off (cs.take l) := by
  intro j u hu
  rw [List.getElem?_take] at hu
  split at hu
  · exact h _ _ hu
  · cases hu
theorem Sl.drop {w : World} {Av : Nat → Prop} {size n : Nat} {A : Option Addr} {xs : List Value} (h : Sl w Av size A n xs) (c l : Nat) (hnc : n ≤ c) (hl : l ≤ n) : Sl w Av size (cutA A c l size) (n - l) (xs.drop (l * size)) := by
  refine ⟨by rw [List.length_drop, h.len, Nat.sub_mul], fun hn => ?_⟩
  obtain ⟨b, off, rfl, hb, ha, hr⟩ := h.at_ (by omega)
  have hc : ¬ c = l := by omega
  refine ⟨b, off + l * size, by simp [cutA, hc, add_blk], hb, ha, hr.drop _⟩
theorem Sl.take {w : World} {Av : Nat → Prop} {size n : Nat} {A : Option Addr} {xs : List Value} (h : Sl w Av size A n xs) (m : Nat) (hm : m ≤ n) : Sl w Av size A m (xs.take (m * size)) := by
  refine ⟨by rw [List.length_take, h.len, Nat.min_eq_left (Nat.mul_le_mul_right _ hm)], fun hn => ?_⟩
  obtain ⟨b, off, rfl, hb, ha, hr⟩ := h.at_ (by omega)
  exact ⟨b, off, rfl, hb, ha, hr.take _⟩
theorem Own.take {w : World} {base : Nat} {e : TypeId} {size : Nat} {A : Option Addr} {n c : Nat} {xs : List Value} (h : Own w base e size (.slice A n c) n xs) (m : Nat) (hm : m ≤ n) : Own w base e size (.slice A m c) m (xs.take (m * size)) := by
  rcases Nat.eq_zero_or_pos n with h0 | h0
  · subst h0
    obtain rfl : m = 0 := by omega
    have hx : xs = [] := List.eq_nil_of_length_eq_zero (by simpa using h.1)
    subst hx
    simpa using h
  · obtain ⟨g, cur, rfl, hb, hB, h1, h2, h3, h4⟩ := h.open_ h0
    refine Own.of_blk hb hB (by omega) h2 h3 ?_
    rw [← h4, List.take_take, Nat.min_eq_left (Nat.mul_le_mul_right _ hm)]

section
variable {P : Program} {t e : TypeId} {size bytes : Nat} {z : Value}
/-- append leaves the row where it is, or lays a new one -/
theorem Elem.append_where (E : Elem P t e size bytes z) (w : World) (base : Nat) (ty : TypeId) (v : Value) (n : Nat) (xs : List Value) (hown : Own w base e size v n xs)
    (A : Option Addr) (m c : Nat) (news : List Value) (hl : news.length = m * size) (hA : 0 < m → ∃ ad, A = some ad ∧ ∀ j u, news[j]? = some u → w.cell? (ad.add j) = some u) (h1 : ∀ u ∈ news, u.oneCell' = true)
    (hb : (n + m) * bytes ≤ 140737488355328) (h63 : n + m ≤ maxLen) {v' : Value} {w' : World} (hr : (Builtin.append_ #[t, t] ty #[v, .slice A m c]).run P w = .ok v' w') :
    v'.ownBlock = v.ownBlock ∨ v'.ownBlock = some w.heap.size := by
  obtain ⟨i, hi, hz, hs, hby⟩ := info_parts E.info
  subst hs hby
  have hsmall : n + m ≤ 9223372036854775807 := by simp only [maxLen] at h63; omega
  rcases A with _ | ad
  · obtain rfl : m = 0 := by
      rcases Nat.eq_zero_or_pos m with h | h
      · exact h
      · obtain ⟨ad, h, _⟩ := hA h; cases h
    rw [append_none E w base ty v n xs hown c] at hr
    cases hr
    exact .inl rfl
  · have hc : ∀ j u, news[j]? = some u → w.cell? (ad.add j) = some u := by
      rcases Nat.eq_zero_or_pos m with h | h
      · intro j u hu
        have hn : news = [] := List.eq_nil_of_length_eq_zero (by simpa [h] using hl)
        simp [hn] at hu
      · obtain ⟨ad', h, hc⟩ := hA h
        injection h with h
        rwa [h]
    rcases hown.2 with ⟨rfl, rfl⟩ | ⟨g, cap, cur, rfl, hbg, hg, hnc, hcm, hcs, htake⟩
    · by_cases hm : m = 0
      · subst hm
        have hn : news = [] := List.eq_nil_of_length_eq_zero (by simpa using hl)
        subst hn
        simp [Builtin.append_, run_underlying E.under, sizeOf, typeInfo, hi, Builtin.lenOf, Builtin.firstCells, loadCells, loadCellsFrom] at hr
        obtain ⟨rfl, rfl⟩ := hr
        exact .inl rfl
      · rw [run_append_nil (P := P) w t ty e i z E.under hi hz ad m c news hl hc (by omega) (by omega) (by simp only [Nat.zero_add] at hb; omega)] at hr
        cases hr
        exact .inr rfl
    · by_cases hroom : n + m ≤ cap
      · have hfit : n * i.size + news.length ≤ cur.size := by rw [hl, hcs, ← Nat.add_mul]; exact Nat.mul_le_mul_right _ hroom
        rw [run_append_room (P := P) w t ty e i E.under hi g n cap cur hg ad m c news hl hc h1 hroom hfit] at hr
        cases hr
        exact .inl rfl
      · have holds : ∀ j u, xs[j]? = some u → w.cell? ((⟨g, 0, none⟩ : Addr).add j) = some u := World.ownsRow.cells hown (g := g) rfl
        rw [run_append_grow (P := P) w t ty e i z E.under hi hz ⟨g, 0, none⟩ n cap xs hown.1 holds ad m c news hl hc (by omega) (by omega) (growslice_fits (by omega) hb)] at hr
        cases hr
        exact .inr rfl

theorem Elem.lawW (E : Elem P t e size bytes z) {w : World} {ops : Array Oper} {rest : List Oper} {o : Oper} {a : Act} {Q : Exit → Act → World → Prop} (s x : Operand)
    (v : Value) (A : Option Addr) (m c : Nat) (hgd : o.guard = none) (ho : o.op = .call { callee := .builtin .append, args := #[s, x], argTypes := #[t, t] }) (hs : a.eval s = v) (hx : a.eval x = .slice A m c)
    (base n : Nat) (xs news : List Value) (hown : Own w base e size v n xs) (hl : news.length = m * size) (hA : 0 < m → ∃ ad, A = some ad ∧ ∀ j u, news[j]? = some u → w.cell? (ad.add j) = some u) (h1 : ∀ u ∈ news, u.oneCell' = true)
    (hb : (n + m) * bytes ≤ 140737488355328) (h63 : n + m ≤ maxLen) (hbase : base ≤ w.heap.size)
    (h : ∀ A' c' w', Own w' base e size (.slice A' (n + m) c') (n + m) (xs ++ news) → w.grownBy w' v.ownBlock → (A'.map (·.block) = v.ownBlock ∨ A'.map (·.block) = some w.heap.size) → wpList P ops Q rest (a.put o.dst (.slice A' (n + m) c')) w') : wpList P ops Q (o :: rest) a w :=
  wpList_plain hgd fun K hK => by
    obtain ⟨v', w', hrun, h2, h3⟩ := E.append w base o.type v n xs hown A m c news hl hA h1 hb h63 hbase
    have hw := E.append_where w base o.type v n xs hown A m c news hl hA h1 hb h63 hrun
    unfold Oper.wp execOp
    simp only [ho, resolve, invoke, builtin, Sem.run_bind, Sem.run_pure, Result.andThen_ok, List.map_toArray, List.map_cons, List.map_nil, hs, hx, hrun]
    obtain ⟨A', c', rfl⟩ := h2.shape
    refine hK _ _ (h A' c' w' h2 h3 ?_)
    cases A' <;> simpa [Value.ownBlock] using hw

theorem zeroCells_len (z : Array Value) (n : Nat) : (Builtin.zeroCells z n).toList.length = n * z.size := by simp [Builtin.zeroCells]
/-- clear(s[l:]) on a row of the call's own -/
theorem Elem.clear (E : Elem P t e size bytes z) (w : World) (base : Nat) (ty : TypeId) (A : Option Addr) (n c : Nat) (xs : List Value) (hown : Own w base e size (.slice A n c) n xs) (l : Nat) (hl : l ≤ n) (hz1 : ∀ u ∈ z.cells, u.oneCell' = true) :
    ∃ w', (Builtin.clear_ #[t] ty #[.slice (cutA A c l size) (n - l) (c - l)]).run P w = .ok (.tuple #[]) w' ∧ Own w' base e size (.slice A l c) l (xs.take (l * size)) ∧ w.grownBy w' (A.map (·.block)) ∧ w'.heap.size = w.heap.size := by
  obtain ⟨i, hi, hz, hs, hby⟩ := info_parts E.info
  have stay : (Builtin.clear_ #[t] ty #[.slice (cutA A c l size) (n - l) (c - l)]).run P w = .ok (.tuple #[]) w → _ := fun hr =>
    (⟨w, hr, hown.take l hl, World.grownBy.refl w _, rfl⟩ : ∃ w', (Builtin.clear_ #[t] ty #[.slice (cutA A c l size) (n - l) (c - l)]).run P w = .ok (.tuple #[]) w' ∧ Own w' base e size (.slice A l c) l (xs.take (l * size)) ∧ w.grownBy w' (A.map (·.block)) ∧ w'.heap.size = w.heap.size)
  rcases Nat.eq_zero_or_pos (n - l) with h0 | h0
  · refine stay ?_
    rw [h0]
    cases cutA A c l size <;> simp [Builtin.clear_, run_underlying E.under]
  · obtain ⟨g, cur, rfl, hb, hB, h1, h2, h3, h4⟩ := hown.open_ (by omega)
    have hcl : ¬ c = l := by omega
    have hcut : cutA (some (⟨g, 0, none⟩ : Addr)) c l size = some ⟨g, l * size, none⟩ := by simp [cutA, hcl, add_blk]
    have hzs := E.zsize
    have hlen : (Builtin.zeroCells z.cells (n - l)).toList.length = (n - l) * size := by rw [zeroCells_len, hzs]
    have hle : l * size + (n - l) * size ≤ cur.size := by
      rw [h3, ← Nat.add_mul]
      exact Nat.mul_le_mul_right _ (by omega)
    have hst := run_storeCells_at P g (l * size) e (Builtin.zeroCells z.cells (n - l)).toList 0 cur w hB (by rw [hlen]; simpa using hle) (by
      intro u hu
      obtain ⟨j, hj, rfl⟩ := List.getElem_of_mem hu
      simp only [Array.getElem_toList, Builtin.zeroCells]
      have hp := E.pos
      have hlt : j % z.cells.size < z.cells.size := Nat.mod_lt _ (by omega)
      refine hz1 _ ?_
      simp [hlt])
    simp only [Nat.add_zero] at hst
    obtain ⟨m, hm⟩ : ∃ m, n - l = m + 1 := ⟨n - l - 1, by omega⟩
    refine ⟨w.setRow g (cur.toList.take (l * size) ++ (Builtin.zeroCells z.cells (n - l)).toList ++ cur.toList.drop (l * size + (Builtin.zeroCells z.cells (n - l)).toList.length)).toArray, ?_, ?_, ?_, ?_⟩
    · rw [hcut]
      rw [hm] at hst ⊢
      simp [Builtin.clear_, run_underlying E.under, zeroValue, typeInfo, hi, hz, hst]
    · refine Own.of_blk hb (setRow_heap w g cur _ e _ hB) (by omega) h2 ?_ ?_
      · simp only [List.size_toArray, List.length_append, List.length_take, List.length_drop, Array.length_toList, hlen]
        omega
      · simp only [List.append_assoc]
        rw [List.take_append_of_le_length (by simp; omega), List.take_take, Nat.min_self, ← h4, List.take_take, Nat.min_eq_left (Nat.mul_le_mul_right _ hl)]
    · exact ⟨rfl, rfl, rfl, by simp, fun k _ hk => setRow_other w g k _ (fun e => hk (by simp [e]))⟩
    · simp
end
end Go.Proofs.Ytmllpapkgfclkaa

import Derived.Test.YtkkenfgpmoediaaWireC
import Derived.Laws.CopyOwn
namespace Go.Proofs.Ytkkenfgpmoediaa
open Go.RowKit

section
variable {P : Program} {t e u : TypeId}
/-- append(v, s...) of a string leaves the row where it is, or lays a new one -/
theorem append_str_where (E : Elem P t e 1 1 (.int .u8 0)) (hu : P.underlying u = some .string) (w : World) (base : Nat) (ty : TypeId) (v : Value) (n : Nat) (xs : List Value) (hown : Own w base e 1 v n xs)
    (s : ByteArray) (hb : n + s.size ≤ 140737488355328) (h63 : n + s.size ≤ maxLen) {v' : Value} {w' : World} (hr : (Builtin.append_ #[t, u] ty #[v, .string s]).run P w = .ok v' w') :
    v'.ownBlock = v.ownBlock ∨ v'.ownBlock = some w.heap.size := by
  obtain ⟨i, hi, hz, hs, hby⟩ := info_parts E.info
  have hsmall : n + s.size ≤ 9223372036854775807 := by simp only [maxLen] at h63; omega
  rcases hown.2 with ⟨rfl, rfl⟩ | ⟨g, cap, cur, rfl, hbg, hg, hnc, hcm, hcs, htake⟩
  · by_cases hm : s.size = 0
    · have hf := Lib.run_firstCells_string (P := P) w 1 s
      rw [hm] at hf
      simp [Builtin.append_, run_underlying E.under, run_underlying hu, sizeOf, typeInfo, hi, hs, Builtin.lenOf, hm, hf] at hr
      obtain ⟨rfl, rfl⟩ := hr
      exact .inl rfl
    · rw [run_append_nil_string (P := P) w t u ty e i (.int .u8 0) E.under hu hi hz s (by omega) (by omega) (by rw [hby]; omega)] at hr
      cases hr
      exact .inr rfl
  · by_cases hroom : n + s.size ≤ cap
    · have hcs' : cur.size = cap := by simpa using hcs
      rw [Lib.run_append_room_string (P := P) w t u ty e i E.under hu hi hs g n cap cur hg s hroom (by omega)] at hr
      cases hr
      exact .inl rfl
    · have holds : ∀ j u, xs[j]? = some u → w.cell? ((⟨g, 0, none⟩ : Addr).add j) = some u := World.ownsRow.cells hown (g := g) rfl
      rw [Lib.run_append_grow_string (P := P) w t u ty e i (.int .u8 0) E.under hu hi hz ⟨g, 0, none⟩ n cap xs (by rw [hs]; exact hown.1) holds s (by omega) (by omega) (by rw [hby]; exact growslice_fits (by omega) (by omega))] at hr
      cases hr
      exact .inr rfl
/-- append(v, s...) of a string, in a region in the text's order -/
theorem Elem.lawStr (E : Elem P t e 1 1 (.int .u8 0)) (hu : P.underlying u = some .string) {w : World} {ops : Array Oper} {rest : List Oper} {o : Oper} {a : Act} {Q : Exit → Act → World → Prop} (s x : Operand)
    (v : Value) (d : ByteArray) (hgd : o.guard = none) (ho : o.op = .call { callee := .builtin .append, args := #[s, x], argTypes := #[t, u] }) (hs : a.eval s = v) (hx : a.eval x = .string d)
    (base n : Nat) (xs : List Value) (k : Nat) (ys : List Value) (hk : n + d.size = k) (hys : xs ++ bcells d.data.toList = ys) (hown : Own w base e 1 v n xs)
    (hb : k ≤ 140737488355328) (h63 : k ≤ maxLen) (hbase : base ≤ w.heap.size)
    (h : ∀ A' c' w', Own w' base e 1 (.slice A' k c') k ys → w.grownBy w' v.ownBlock → (A'.map (·.block) = v.ownBlock ∨ A'.map (·.block) = some w.heap.size) → wpList P ops Q rest (a.put o.dst (.slice A' k c')) w') : wpList P ops Q (o :: rest) a w := by
  subst hk hys
  refine wpList_plain hgd fun K hK => ?_
  obtain ⟨i, hi, hz, hsz, hby⟩ := info_parts E.info
  obtain ⟨v', w', hr, h2, h3, _⟩ := Lib.run_append_own_string (P := P) w base t u o.type e i E.under hu hi hz hsz hby v n xs hown d h63 hb hbase
  have hw := append_str_where E hu w base o.type v n xs hown d hb h63 hr
  unfold Oper.wp execOp
  simp only [ho, resolve, invoke, builtin, Sem.run_bind, Sem.run_pure, Result.andThen_ok, List.map_toArray, List.map_cons, List.map_nil, hs, hx, hr]
  obtain ⟨A', c', rfl⟩ := Own.shape h2
  refine hK _ _ (h A' c' w' h2 h3 ?_)
  cases A' <;> simpa [Value.ownBlock] using hw
/-- copy(dst, src): dst is a block of the call's own, as long as it is; src is at least as long -/
theorem copy_all {bytes : Nat} {z : Value} (E : Elem P t e 1 bytes z) {w : World} {ops : Array Oper} {rest : List Oper} {o : Oper} {a : Act} {Q : Exit → Act → World → Prop} (d s : Operand)
    (g n c : Nat) (A : Option Addr) (m c' : Nat) (hgd : o.guard = none) (ho : o.op = .call { callee := .builtin .copy, args := #[d, s], argTypes := #[t, t] }) (hd : a.eval d = .slice (some ⟨g, 0, none⟩) n c) (hs : a.eval s = .slice A m c')
    (cur : Array Value) (hB : Blk w g e cur) (hcur : cur.size = n) (Av : Nat → Prop) (xs : List Value) (hS : Sl w Av 1 A m xs) (hnm : n ≤ m) (h1 : ∀ u ∈ xs, u.oneCell' = true)
    (h : ∀ w', Blk w' g e (xs.take n).toArray → Keep (· = g) w w' → wpList P ops Q rest (a.put o.dst (goInt n)) w') : wpList P ops Q (o :: rest) a w := by
  obtain ⟨i, hi, hz, hsz, hby⟩ := info_parts E.info
  have hsz' : (P.info? e).map (·.size) = some 1 := by rw [hi]; simp [hsz]
  have hxl : xs.length = m := by simpa using hS.len
  rcases Nat.eq_zero_or_pos n with h0 | h0
  · subst h0
    have hc0 : cur = #[] := Array.eq_empty_of_size_eq_zero hcur
    subst hc0
    exact wpList_copy_nothing hgd d s t t ho e E.under hsz' _ _ _ _ _ _ hd hs (by simp) (h w (by simpa using hB) (Keep.refl _ _))
  · obtain ⟨b, off, rfl, hb, _, hr⟩ := hS.at_ (by omega)
    have hcl : (xs.take n).length = n := by rw [List.length_take]; omega
    have := wpList_copy_own (P := P) (rest := rest) (Q := Q) (ops := ops) hgd d s t t ho e E.under hsz' g 0 n c ⟨b, off, none⟩ m c' hd hs cur e hB (xs.take n) (by rw [hcl]; exact (Nat.min_eq_right hnm).symm) (fun j u hu => by
        rw [add_blk]
        rw [List.getElem?_take] at hu
        split at hu
        · exact hr j u hu
        · simp at hu) (by omega) (fun u hu => h1 u (List.mem_of_mem_take hu))
    refine this ?_
    have hcells : (List.take 0 cur.toList ++ (List.take n xs ++ List.drop (0 + (List.take n xs).length) cur.toList)).toArray = (xs.take n).toArray := by
      rw [hcl]
      simp [List.drop_eq_nil_of_le, hcur]
    rw [hcells, hcl]
    refine h _ ?_ ?_
    · exact setRow_heap w g cur _ e _ hB
    · exact ⟨rfl, rfl, rfl, by simp [World.setRow], fun k _ hk => setRow_other w g k _ (by omega)⟩
end
end Go.Proofs.Ytkkenfgpmoediaa

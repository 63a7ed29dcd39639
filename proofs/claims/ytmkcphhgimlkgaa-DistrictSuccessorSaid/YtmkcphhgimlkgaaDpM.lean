import Derived.Maps.OwnSet
import Derived.Test.YtmkcphhgimlkgaaGen
namespace Go.Proofs.Ytmkcphhgimlkgaa
open Go.RowKit
open Go.Maps (Keyed has size IsMap Tidy)

/-! ## The call's own maps: map[int]bool that holds true alone, map[int]int -/
/-- a look-up of a bool in the call's own map -/
theorem wpList_lookup_own_bool {H : Type} {P : Program} (w : World) {ops : Array Oper} {rest : List Oper} {o : Oper} {a : Act} {Q : Exit → Act → World → Prop}
    (hg : o.guard = none) (m x : Operand) (t : TypeId) (hop : o.op = Op.lookup t m x false)
    (k e : TypeId) (K : Keyed P k) (ht : P.underlying t = some (.map k e)) (he : P.underlying e = some .bool) (hz : (zeroValue e).run P w = .ok (.bool false) w) (b n : Nat) (D : DataW H)
    (hm : a.eval m = .map (some b)) (hown : w.ownsMap P k (plainElem P e) b n D) (key : Value) (kl : Lit) (hx : a.eval x = key) (hkey : keyOf P k key = some kl) (r : Bool) (hr : D.atKey kl (.lit (.bool false)) = .lit (.bool r))
    (hK : wpList P ops Q rest (a.put o.dst (.bool r)) w) :
    wpList P ops Q (o :: rest) a w := by
  refine wpList_plain hg fun K' hK' => ?_
  obtain ⟨v, ps, hrun, hv⟩ := hown.lookup K ht hz (plainElem_bool he false) hkey
  rw [hr] at hv
  have hvb : v = .bool r := by
    unfold plainElem at hv
    rw [he] at hv
    cases v <;> simp at hv
    rw [hv.1]
  subst hvb
  unfold Oper.wp
  simp [execOp, hop, hm, hx, hrun, Result.andThen]
  exact hK' _ _ hK
theorem KInt : Keyed Try.prog 3 := Maps.int_keyed Try.underlying3
theorem int_key {j : Int} (h : (Lit.int .i64 j).wf = true) : keyOf Try.prog 3 (.int .i64 j) = some (.int .i64 j) := Maps.keyOf_int_mk Try.underlying3 h
theorem int_isKey (j : Int) : WideAt.IsKeyLit (.int .i64 j) := by trivial
theorem zeroBo (w : World) : (zeroValue 4).run Try.prog w = .ok (.bool false) w := by kernel_rfl
theorem zeroIn (w : World) : (zeroValue 3).run Try.prog w = .ok (.int .i64 0) w := by kernel_rfl
def MBool (w : World) (b n : Nat) (f : Int → Bool) : Prop :=
  ∃ D : DataW Unit, w.ownsMap Try.prog 3 (plainElem Try.prog 4) b n D ∧ (∀ kl, has D kl = true → ∃ j, kl = .int .i64 j ∧ f j = true) ∧ ∀ j, (Lit.int .i64 j).wf = true → D.atKey (.int .i64 j) (.lit (.bool false)) = .lit (.bool (f j))
def MInt (w : World) (b n : Nat) (f : Int → Int) : Prop :=
  ∃ D : DataW Unit, w.ownsMap Try.prog 3 (plainElem Try.prog 3) b n D ∧ ∀ j, (Lit.int .i64 j).wf = true → D.atKey (.int .i64 j) (.lit (.int .i64 0)) = .lit (.int .i64 (f j))
section
variable {w w' : World} {b n : Nat} {f : Int → Bool} {g : Int → Int} {S : Nat → Prop}
theorem MBool.lt (h : MBool w b n f) : b < w.heap.size := by obtain ⟨D, h, _⟩ := h; exact h.lt
theorem MInt.lt (h : MInt w b n g) : b < w.heap.size := by obtain ⟨D, h, _⟩ := h; exact h.lt
theorem MBool.keep (h : MBool w b n f) (hk : Keep S w w') (hn : ¬ S b) : MBool w' b n f := by
  obtain ⟨D, ⟨es, cl, hb, r⟩, h⟩ := h
  exact ⟨D, ⟨es, cl, (hk.block b (Array.getElem?_eq_some_iff.1 hb).1 hn).trans hb, r⟩, h⟩
theorem MInt.keep (h : MInt w b n g) (hk : Keep S w w') (hn : ¬ S b) : MInt w' b n g := by
  obtain ⟨D, ⟨es, cl, hb, r⟩, h⟩ := h
  exact ⟨D, ⟨es, cl, (hk.block b (Array.getElem?_eq_some_iff.1 hb).1 hn).trans hb, r⟩, h⟩
theorem MBool.made (w : World) : MBool (w.alloc (.map #[] 0)) w.heap.size 0 (fun _ => false) :=
  ⟨.map [], World.ownsMap_made w _ _ _, fun kl h => by simp [has] at h, fun j _ => rfl⟩
theorem MInt.made (w : World) : MInt (w.alloc (.map #[] 0)) w.heap.size 0 (fun _ => 0) :=
  ⟨.map [], World.ownsMap_made w _ _ _, fun j _ => rfl⟩
theorem MBool.congr {f' : Int → Bool} (h : MBool w b n f) (e : ∀ j, f j = f' j) : MBool w b n f' := by rw [← funext e]; exact h
theorem MInt.congr {g' : Int → Int} (h : MInt w b n g) (e : ∀ j, g j = g' j) : MInt w b n g' := by rw [← funext e]; exact h
theorem wf_int {j : Int} (h : -9223372036854775808 ≤ j) (h2 : j ≤ 9223372036854775807) : (Lit.int .i64 j).wf = true := by
  rw [Lit.wf, show IntKind.i64.min = -9223372036854775808 from rfl, show IntKind.i64.max = 9223372036854775807 from rfl]; simp; omega
theorem lit_ne {i j : Int} (h : i ≠ j) : (Lit.int .i64 i) ≠ .int .i64 j := by intro e; injection e; exact h ‹_›
variable {ops : Array Oper} {rest : List Oper} {o : Oper} {a : Act} {Q : Exit → Act → World → Prop}
theorem put_b (hg : o.guard = none) (m x v : Operand) (hop : o.op = Op.mapUpdate 55 m x v) (b n : Nat) (f : Int → Bool) (hm : a.eval m = .map (some b)) (h : MBool w b n f) (hn : n < maxLen) (j : Int) (hx : a.eval x = .int .i64 j) (hj : (Lit.int .i64 j).wf = true)
    (hv : a.eval v = .bool true) (hK : ∀ w', MBool w' b (n + 1) (fun i => f i || i == j) → w.grownBy w' (some b) → wpList Try.prog ops Q rest (a.put o.dst undef) w') : wpList Try.prog ops Q (o :: rest) a w := by
  obtain ⟨D, hD, h1, h2⟩ := h
  refine wpList_mapUpdate_own w hg m x v 55 hop _ _ KInt Try.underlying55 _ b n D hm hD hn _ _ (.int .i64 j) hx hv (int_key hj) (.lit (.bool true)) [] (plainElem_bool Try.underlying4 true) ?_
  intro w' hD' hg'
  refine hK w' ⟨_, hD', ?_, ?_⟩ hg'
  · intro kl hk
    by_cases e : kl = .int .i64 j
    · exact ⟨j, e, by simp⟩
    · rw [Maps.has_put_other e] at hk
      obtain ⟨i, hi, hf⟩ := h1 kl hk
      exact ⟨i, hi, by simp [hf]⟩
  · intro i hi
    by_cases e : i = j
    · subst e
      rw [Maps.atKey_put_same hD.isMap (int_isKey _)]; simp
    · rw [Maps.atKey_put_other (lit_ne e), h2 i hi]; simp [e]
theorem del_b (hg : o.guard = none) (m x : Operand) (hop : o.op = Op.call { callee := Callee.builtin Builtin.delete, args := #[m, x], argTypes := #[55, 3] }) (b n : Nat) (f : Int → Bool) (hm : a.eval m = .map (some b)) (h : MBool w b n f) (j : Int) (hx : a.eval x = .int .i64 j) (hj : (Lit.int .i64 j).wf = true)
    (hK : ∀ w', MBool w' b n (fun i => f i && !(i == j)) → w.grownBy w' (some b) → wpList Try.prog ops Q rest (a.put o.dst (.tuple #[])) w') : wpList Try.prog ops Q (o :: rest) a w := by
  obtain ⟨D, hD, h1, h2⟩ := h
  refine wpList_delete_own w hg m x 55 3 hop _ KInt Try.underlying55 _ b n D hm hD _ (.int .i64 j) hx (int_key hj) ?_
  intro w' hD' hg'
  refine hK w' ⟨_, hD', ?_, ?_⟩ hg'.grown
  · intro kl hk
    by_cases e : kl = .int .i64 j
    · rw [e, Maps.has_del_same] at hk; cases hk
    · rw [Maps.has_del_other e] at hk
      obtain ⟨i, rfl, hf⟩ := h1 kl hk
      exact ⟨i, rfl, by simp [hf]; rintro rfl; exact e rfl⟩
  · intro i hi
    by_cases e : i = j
    · subst e
      rw [Maps.atKey_del_same]; simp
    · rw [Maps.atKey_del_other (lit_ne e), h2 i hi]; simp [e]
theorem look_b (hg : o.guard = none) (m x : Operand) (hop : o.op = Op.lookup 55 m x false) (b n : Nat) (f : Int → Bool) (hm : a.eval m = .map (some b)) (h : MBool w b n f) (j : Int) (hx : a.eval x = .int .i64 j) (hj : (Lit.int .i64 j).wf = true) (r : Bool) (hr : f j = r)
    (hK : wpList Try.prog ops Q rest (a.put o.dst (.bool r)) w) : wpList Try.prog ops Q (o :: rest) a w := by
  obtain ⟨D, hD, h1, h2⟩ := h
  exact wpList_lookup_own_bool w hg m x 55 hop _ _ KInt Try.underlying55 Try.underlying4 (zeroBo w) b n D hm hD _ (.int .i64 j) hx (int_key hj) r (by rw [h2 j hj, hr]) hK
/-- how many entries -/
def MLen (w : World) (b s : Nat) : Prop := ∃ (n : Nat) (D : DataW Unit), w.ownsMap Try.prog 3 (plainElem Try.prog 4) b n D ∧ size D = s
/-- an empty map, or one in which something is true -/
theorem MBool.len (h : MBool w b n f) : ∃ s, MLen w b s ∧ s ≤ n ∧ (s = 0 ∨ (0 < s ∧ ∃ j, f j = true)) := by
  obtain ⟨D, hD, h1, h2⟩ := h
  refine ⟨size D, ⟨n, D, hD, rfl⟩, hD.size_le, ?_⟩
  by_cases h0 : size D = 0
  · exact .inl h0
  · obtain ⟨es, cl, _, F, _, rfl⟩ := hD
    have hk := Maps.fit_keys F
    generalize hE : (es.toList.map (WideElems.rg Try.prog 3 (plainElem Try.prog 4))) = E at *
    cases hS : E.foldr DataW.insert [] with
    | nil => rw [hS] at h0; exact absurd rfl h0
    | cons p r =>
      have hp : p ∈ E := (WideShapes.sorted_perm E).mem_iff.1 (by rw [hS]; simp)
      obtain ⟨v, hv⟩ := hk p hp
      obtain ⟨j, _, hj⟩ := h1 p.1 (by rw [hS, Maps.has_eq]; simp [WideAt.sameKey_self (KInt.key hv)])
      exact .inr ⟨by rw [← hS]; exact Nat.pos_of_ne_zero h0, j, hj⟩
theorem len_s (hg : o.guard = none) (m : Operand) (hop : o.op = Op.call { callee := Callee.builtin Builtin.len, args := #[m], argTypes := #[55] }) (b s : Nat) (hm : a.eval m = .map (some b)) (h : MLen w b s)
    (hK : wpList Try.prog ops Q rest (a.put o.dst (.int .i64 s)) w) : wpList Try.prog ops Q (o :: rest) a w := by
  obtain ⟨n, D, hD, rfl⟩ := h
  exact wpList_len_own w hg m 55 hop _ _ Try.underlying55 _ b n D hm hD hK
theorem put_i (hg : o.guard = none) (m x v : Operand) (hop : o.op = Op.mapUpdate 56 m x v) (b n : Nat) (f : Int → Int) (hm : a.eval m = .map (some b)) (h : MInt w b n f) (hn : n < maxLen) (j : Int) (hx : a.eval x = .int .i64 j) (hj : (Lit.int .i64 j).wf = true)
    (u : Int) (hu : (Lit.int .i64 u).wf = true) (hv : a.eval v = .int .i64 u) (hK : ∀ w', MInt w' b (n + 1) (fun i => if i = j then u else f i) → w.grownBy w' (some b) → wpList Try.prog ops Q rest (a.put o.dst undef) w') : wpList Try.prog ops Q (o :: rest) a w := by
  obtain ⟨D, hD, h2⟩ := h
  refine wpList_mapUpdate_own w hg m x v 56 hop _ _ KInt Try.underlying56 _ b n D hm hD hn _ _ (.int .i64 j) hx hv (int_key hj) (.lit (.int .i64 u)) [] (plainElem_int Try.underlying3 hu) ?_
  intro w' hD' hg'
  refine hK w' ⟨_, hD', ?_⟩ hg'
  intro i hi
  by_cases e : i = j
  · subst e
    rw [Maps.atKey_put_same hD.isMap (int_isKey _)]; simp
  · rw [Maps.atKey_put_other (lit_ne e), h2 i hi]; simp [e]
theorem look_i (hg : o.guard = none) (m x : Operand) (hop : o.op = Op.lookup 56 m x false) (b n : Nat) (f : Int → Int) (hm : a.eval m = .map (some b)) (h : MInt w b n f) (j : Int) (hx : a.eval x = .int .i64 j) (hj : (Lit.int .i64 j).wf = true) (r : Int) (hr : f j = r)
    (hK : wpList Try.prog ops Q rest (a.put o.dst (.int .i64 r)) w) : wpList Try.prog ops Q (o :: rest) a w := by
  obtain ⟨D, hD, h2⟩ := h
  refine wpList_lookup_own_int w hg m x 56 hop _ _ .i64 KInt Try.underlying56 Try.underlying3 (zeroIn w) b n D hm hD _ (.int .i64 j) hx (int_key hj) ?_
  intro c hc _
  rw [h2 j hj] at hc
  injection hc with hc
  injection hc with _ hc
  rw [← hc, hr]; exact hK
end
end Go.Proofs.Ytmkcphhgimlkgaa

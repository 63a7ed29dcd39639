import Derived.Lib.TrailingZeros
import Derived.Lib.BitFns
namespace Go.Proofs.YtnejacmmbfeneaaDoor

/-! ## Sets of nodes as words, plain -/
def memW (ws : List Nat) (n : Nat) : Bool := (ws.getD (n / 64) 0).testBit (n % 64)
structure OkW (ws : List Nat) : Prop where
  len : ws.length = 64
  each : ∀ w ∈ ws, w < 18446744073709551616
def elemsW (ws : List Nat) : List Nat := (List.range 4096).filter (memW ws)
def bitsL (w : Nat) : List Nat := (List.range 64).filter w.testBit

/-! ### a range's filter -/
theorem filter_first {p q : Nat → Bool} {k : Nat} (h0 : ∀ j, j < k → p j = false) (h1 : p k = true) (hq : ∀ j, q j = (p j && decide (k < j))) : ∀ N, k < N → (List.range N).filter p = k :: (List.range N).filter q := by
  have hn : ∀ N, N ≤ k → (List.range N).filter p = [] := fun N hN => by
    rw [List.filter_eq_nil_iff]; intro a ha; rw [List.mem_range] at ha; simp [h0 a (by omega)]
  have hm : ∀ N, N ≤ k + 1 → (List.range N).filter q = [] := fun N hN => by
    rw [List.filter_eq_nil_iff]; intro a ha; rw [List.mem_range] at ha; rw [hq]; simp; intro _; omega
  intro N
  induction N with
  | zero => intro h; omega
  | succ N ih =>
    intro h
    rw [List.range_succ, List.filter_append, List.filter_append]
    by_cases hk : k < N
    · rw [ih hk]
      have : q N = p N := by rw [hq]; simp [hk]
      simp [List.filter_cons, this]
    · obtain rfl : k = N := by omega
      rw [hn k (Nat.le_refl _), hm k (by omega)]
      have : q k = false := by rw [hq]; simp
      simp [h1, this]
theorem filter_add {p : Nat → Bool} (m : Nat) : ∀ N, (List.range (m + N)).filter p = (List.range m).filter p ++ ((List.range N).filter (fun j => p (m + j))).map (m + ·) := by
  intro N
  induction N with
  | zero => simp
  | succ N ih =>
    rw [← Nat.add_assoc, List.range_succ, List.filter_append, ih, List.range_succ, List.filter_append, List.map_append, List.append_assoc]
    congr 1
    cases h : p (m + N) <;> simp [h]

/-! ### one word -/
theorem bit_at (k m j : Nat) : (2 ^ k * (2 * m + 1)).testBit j = (decide (k ≤ j) && (2 * m + 1).testBit (j - k)) := by
  rw [Nat.testBit_two_pow_mul]
theorem bits_step {w : Nat} (h0 : w ≠ 0) (h : w < 18446744073709551616) : Lib.ctz 64 w < 64 ∧ bitsL w = Lib.ctz 64 w :: bitsL (w &&& (w - 1)) := by
  obtain ⟨m, hw, hk⟩ := Lib.ctzFrom_spec 64 w (by omega) (by omega)
  have hc : Lib.ctz 64 w = Lib.ctzFrom 64 w := by rw [Lib.ctz, if_neg h0]
  rw [hc]
  generalize Lib.ctzFrom 64 w = k at *
  subst hw
  refine ⟨hk, filter_first (k := k) ?_ ?_ ?_ 64 hk⟩
  · intro j hj
    rw [bit_at]; simp; omega
  · rw [bit_at]; simp
  · intro j
    rw [Nat.testBit_and]
    have e1 : 2 ^ k * (2 * m + 1) - 1 = 2 ^ k * (2 * m) + (2 ^ k - 1) := by
      have := Nat.two_pow_pos k
      rw [Nat.mul_add]; omega
    rw [e1, Nat.testBit_two_pow_mul_add _ (by have := Nat.two_pow_pos k; omega), bit_at]
    by_cases h1 : j < k
    · simp [h1, show ¬ k ≤ j by omega]
    · rw [if_neg h1]
      have hkj : k ≤ j := by omega
      simp only [hkj, decide_true, Bool.true_and]
      by_cases h2 : j = k
      · subst h2; simp
      · obtain ⟨i, rfl⟩ : ∃ i, j = k + (i + 1) := ⟨j - k - 1, by omega⟩
        have e2 : k + (i + 1) - k = i + 1 := by omega
        rw [e2, Nat.testBit_succ, Nat.testBit_succ, show (2 * m + 1) / 2 = m by omega, show 2 * m / 2 = m by omega]
        simp
theorem bits_zero : bitsL 0 = [] := by simp [bitsL]
theorem and_lt {w v : Nat} (h : w < 18446744073709551616) : w &&& v < 18446744073709551616 := Nat.lt_of_le_of_lt Nat.and_le_left h

/-! ### the elements, word by word -/
def upTo (ws : List Nat) : Nat → List Nat
  | 0 => []
  | i + 1 => upTo ws i ++ (bitsL (ws.getD i 0)).map (64 * i + ·)
theorem upTo_eq (ws : List Nat) (i : Nat) : upTo ws i = (List.range (64 * i)).filter (memW ws) := by
  induction i with
  | zero => rfl
  | succ i ih =>
    rw [upTo, ih, Nat.mul_succ, filter_add]
    congr 1
    congr 1
    refine List.filter_congr fun j hj => ?_
    rw [List.mem_range] at hj
    rw [memW, show (64 * i + j) / 64 = i by omega, show (64 * i + j) % 64 = j by omega]
theorem elems_upTo (ws : List Nat) : elemsW ws = upTo ws 64 := (upTo_eq ws 64).symm
theorem memW_lt {ws : List Nat} (hl : ws.length = 64) {n : Nat} (h : memW ws n = true) : n < 4096 := by
  rw [memW] at h
  by_cases hn : n < 4096
  · exact hn
  · rw [List.getD_eq_getElem?_getD, List.getElem?_eq_none (by omega)] at h
    simp at h
theorem mem_elems {ws : List Nat} (hl : ws.length = 64) {n : Nat} : n ∈ elemsW ws ↔ memW ws n = true := by
  rw [elemsW, List.mem_filter, List.mem_range]
  exact ⟨fun h => h.2, fun h => ⟨memW_lt hl h, h⟩⟩
theorem getD_lt {ws : List Nat} (h : OkW ws) (i : Nat) : ws.getD i 0 < 18446744073709551616 := by
  rw [List.getD_eq_getElem?_getD]
  cases hi : ws[i]? with
  | none => simp
  | some w => exact h.each w (List.mem_of_getElem? hi)
theorem words_ext {a b : List Nat} (ha : OkW a) (hb : OkW b) (h : ∀ n, n < 4096 → memW a n = memW b n) : a = b := by
  refine List.ext_getElem? fun i => ?_
  by_cases hi : i < 64
  · obtain ⟨x, hx⟩ : ∃ x, a[i]? = some x := ⟨_, List.getElem?_eq_getElem (by rw [ha.len]; exact hi)⟩
    obtain ⟨y, hy⟩ : ∃ y, b[i]? = some y := ⟨_, List.getElem?_eq_getElem (by rw [hb.len]; exact hi)⟩
    rw [hx, hy]
    congr 1
    refine Nat.eq_of_testBit_eq fun j => ?_
    by_cases hj : j < 64
    · have h1 := h (64 * i + j) (by omega)
      rw [memW, memW, show (64 * i + j) / 64 = i by omega, show (64 * i + j) % 64 = j by omega, List.getD_eq_getElem?_getD, List.getD_eq_getElem?_getD, hx, hy] at h1
      exact h1
    · have hx' := ha.each x (List.mem_of_getElem? hx)
      have hy' := hb.each y (List.mem_of_getElem? hy)
      rw [Nat.testBit_lt_two_pow (Nat.lt_of_lt_of_le hx' (show 18446744073709551616 ≤ 2 ^ j from Nat.pow_le_pow_right (n := 2) (by decide) (show 64 ≤ j by omega))),
        Nat.testBit_lt_two_pow (Nat.lt_of_lt_of_le hy' (show 18446744073709551616 ≤ 2 ^ j from Nat.pow_le_pow_right (n := 2) (by decide) (show 64 ≤ j by omega)))]
  · rw [List.getElem?_eq_none (by rw [ha.len]; omega), List.getElem?_eq_none (by rw [hb.len]; omega)]
theorem elems_inj {a b : List Nat} (ha : OkW a) (hb : OkW b) (h : elemsW a = elemsW b) : a = b := words_ext ha hb fun n hn => by
  have h1 := mem_elems ha.len (n := n)
  have h2 := mem_elems hb.len (n := n)
  rw [h, h2] at h1
  cases h3 : memW a n <;> cases h4 : memW b n <;> simp_all
def zeroW : List Nat := List.replicate 64 0
theorem zeroW_ok : OkW zeroW := ⟨by simp [zeroW], fun w h => by rw [List.eq_of_mem_replicate h]; decide⟩
theorem zeroW_mem (n : Nat) : memW zeroW n = false := by
  rw [memW, List.getD_eq_getElem?_getD, zeroW, List.getElem?_replicate]; split <;> simp
theorem elems_zero : elemsW zeroW = [] := by rw [elemsW, List.filter_eq_nil_iff]; intro a _; simp [zeroW_mem]
theorem elems_nil {ws : List Nat} (h : OkW ws) : elemsW ws = [] ↔ ws = zeroW :=
  ⟨fun e => elems_inj h zeroW_ok (by rw [e, elems_zero]), fun e => by rw [e, elems_zero]⟩

/-! ### what the operations do -/
theorem zip_ok {a b : List Nat} (ha : OkW a) (hb : OkW b) {f : Nat → Nat → Nat} (hf : ∀ x y, x < 18446744073709551616 → f x y < 18446744073709551616) : OkW (List.zipWith f a b) :=
  ⟨by rw [List.length_zipWith, ha.len, hb.len]; rfl, fun w hw => by
    obtain ⟨i, hi, rfl⟩ := List.getElem_of_mem hw
    rw [List.getElem_zipWith]
    exact hf _ _ (ha.each _ (List.getElem_mem _))⟩
theorem zip_mem {a b : List Nat} (ha : OkW a) (hb : OkW b) {f : Nat → Nat → Nat} {g : Bool → Bool → Bool} (hf : ∀ x y j, (f x y).testBit j = g (x.testBit j) (y.testBit j)) (n : Nat) (hn : n < 4096) : memW (List.zipWith f a b) n = g (memW a n) (memW b n) := by
  have h64 : n / 64 < 64 := by omega
  have h1 : (List.zipWith f a b)[n / 64]? = some (f (a.getD (n / 64) 0) (b.getD (n / 64) 0)) := by
    rw [List.getElem?_zipWith, List.getElem?_eq_getElem (by rw [ha.len]; exact h64), List.getElem?_eq_getElem (by rw [hb.len]; exact h64)]
    simp [List.getD_eq_getElem?_getD, List.getElem?_eq_getElem (show n / 64 < a.length by rw [ha.len]; exact h64), List.getElem?_eq_getElem (show n / 64 < b.length by rw [hb.len]; exact h64)]
  rw [memW, List.getD_eq_getElem?_getD, h1]
  exact hf _ _ _
/-- a node more -/
def addW (ws : List Nat) (n : Nat) : List Nat := ws.set (n / 64) (ws.getD (n / 64) 0 ||| 2 ^ (n % 64))
theorem addW_ok {ws : List Nat} (h : OkW ws) (n : Nat) : OkW (addW ws n) :=
  ⟨by rw [addW, List.length_set]; exact h.len, fun w hw => by
    rcases List.mem_or_eq_of_mem_set hw with h1 | h1
    · exact h.each w h1
    · rw [h1]
      exact Nat.or_lt_two_pow (n := 64) (getD_lt h _) (Nat.pow_lt_pow_right (by decide) (Nat.mod_lt _ (by decide)))⟩
theorem addW_mem {ws : List Nat} (h : OkW ws) {n : Nat} (hn : n < 4096) (m : Nat) : memW (addW ws n) m = (memW ws m || decide (m = n)) := by
  have hl : n / 64 < ws.length := by rw [h.len]; omega
  rw [memW, memW, addW, List.getD_eq_getElem?_getD, List.getElem?_set]
  by_cases h1 : n / 64 = m / 64
  · rw [if_pos h1, if_pos (by omega)]
    simp only [Option.getD_some]
    rw [Nat.testBit_or, Nat.testBit_two_pow, h1]
    congr 1
    by_cases h2 : n % 64 = m % 64
    · have : m = n := by omega
      simp [this]
    · have : m ≠ n := by omega
      simp [h2, this]
  · rw [if_neg h1, ← List.getD_eq_getElem?_getD]
    have : m ≠ n := by omega
    simp [this]
/-- the nodes of a list -/
def ofW (l : List Int) : List Nat := l.foldl (fun ws n => if 0 ≤ n ∧ n < 4096 then addW ws n.toNat else ws) zeroW
theorem ofW_snoc (l : List Int) (n : Int) : ofW (l ++ [n]) = if 0 ≤ n ∧ n < 4096 then addW (ofW l) n.toNat else ofW l := by simp [ofW]
theorem ofW_ok (l : List Int) : OkW (ofW l) := by
  have : ∀ (l : List Int) ws, OkW ws → OkW (l.foldl (fun ws n => if 0 ≤ n ∧ n < 4096 then addW ws n.toNat else ws) ws) := by
    intro l
    induction l with
    | nil => intro ws h; exact h
    | cons a l ih =>
      intro ws h
      refine ih _ ?_
      by_cases ha : 0 ≤ a ∧ a < 4096
      · simp only [ha, and_self, if_true]; exact addW_ok h _
      · simp only [if_neg ha]; exact h
  exact this l _ zeroW_ok
theorem ofW_mem (l : List Int) (m : Nat) (hm : m < 4096) : memW (ofW l) m = decide ((m : Int) ∈ l) := by
  have : ∀ (l : List Int) ws, OkW ws → memW (l.foldl (fun ws n => if 0 ≤ n ∧ n < 4096 then addW ws n.toNat else ws) ws) m = (memW ws m || decide ((m : Int) ∈ l)) := by
    intro l
    induction l with
    | nil => intro ws h; simp
    | cons a l ih =>
      intro ws h
      rw [List.foldl_cons]
      by_cases ha : 0 ≤ a ∧ a < 4096
      · rw [if_pos ha, ih _ (addW_ok h _), addW_mem h (by omega)]
        by_cases e : (m : Int) = a
        · have h1 : m = a.toNat := by omega
          rw [show decide (m = a.toNat) = true from by simp [h1], show decide ((m : Int) ∈ a :: l) = true from by simp [e]]; simp
        · have h1 : m ≠ a.toNat := by omega
          rw [show decide (m = a.toNat) = false from by simp [h1], Bool.or_false]
          simp [e]
      · rw [if_neg ha, ih _ h]
        have : (m : Int) ≠ a := by omega
        simp [this]
  rw [ofW, this l _ zeroW_ok, zeroW_mem, Bool.false_or]
end Go.Proofs.YtnejacmmbfeneaaDoor

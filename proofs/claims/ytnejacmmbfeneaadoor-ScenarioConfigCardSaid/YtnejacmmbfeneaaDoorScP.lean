import Derived.Test.YtnejacmmbfeneaaDoorScA
import Derived.Test.YtnejacmmbfeneaaDoorConfG
namespace Go.Proofs.YtnejacmmbfeneaaDoor
open Go.RowKit

/-! ## Plain: a random configuration -/
/-- The district of node i of n, with c centres. -/
def disN (n c i : Nat) : Nat := i * c / n
def disL (n c : Nat) : List Int := (List.range n).map fun i => ((disN n c i : Nat) : Int)
/-- The nodes (below k) of district h. -/
def plN (n c : Nat) (h : Nat) (k : Nat) : List Nat := (List.range k).filter fun i => disN n c i == h
def plL (n c : Nat) (h : Nat) (k : Nat) : List Int := (plN n c h k).map Int.ofNat
def two (a b t : Int) : List E3 := [⟨a, b, t⟩, ⟨b, a, t⟩]
def ringS (n : Nat) (s : Int) : Nat → Int × List E3
  | 0 => (s, [])
  | k + 1 => (aft 9 (ringS n s k).1, (ringS n s k).2 ++ two (k : Int) (((k + 1) % n : Nat) : Int) (1 + roll 9 (ringS n s k).1))
def moreS (n : Nat) (p : Int × List E3) : Nat → Int × List E3
  | 0 => p
  | k + 1 =>
    let s := (moreS n p k).1
    (aft 9 (aft n (aft n s)), if roll n s = roll n (aft n s) then (moreS n p k).2 else (moreS n p k).2 ++ two (roll n s) (roll n (aft n s)) (1 + roll 9 (aft n (aft n s))))
def wts : List Int := [6, 2, 1, 1]
def unitF (n c : Nat) (s : Int) (k : Nat) : E3 :=
  ⟨1 + pick wts s, ((k % c : Nat) : Int), ((plL n c (k % c) n)[(roll (plL n c (k % c) n).length (pickA wts s)).toNat]?).getD 0⟩
def unitS (n c : Nat) (s : Int) : Nat → Int × List E3
  | 0 => (s, [])
  | k + 1 => (aft (plL n c (k % c) n).length (pickA wts (unitS n c s k).1), (unitS n c s k).2 ++ [unitF n c (unitS n c s k).1 k])
def ring (n : Nat) (s : Int) : Int × List E3 := if 1 < n then ringS n s n else (s, [])
def edgS (n : Nat) (s : Int) : Int × List E3 := moreS n (ring n s) (n / 2)
def town (n c u : Nat) (s : Int) : List E3 := (unitS n c (edgS n s).1 u).2

/-! ## A node of each district -/
theorem disN_lt {n c i : Nat} (hi : i < n) : disN n c i < c ∨ c = 0 := by
  rcases Nat.eq_zero_or_pos c with h | h
  · exact Or.inr h
  · refine Or.inl ((Nat.div_lt_iff_lt_mul (by omega)).2 ?_)
    rw [Nat.mul_comm c n]
    exact Nat.mul_lt_mul_of_pos_right hi h
theorem disN_hit {n c h : Nat} (hc : 1 ≤ c) (hn : c ≤ n) (hh : h < c) : ∃ i, i < n ∧ disN n c i = h := by
  refine ⟨(h * n + c - 1) / c, ?_, ?_⟩
  · rw [Nat.div_lt_iff_lt_mul (by omega)]
    have : (h + 1) * n ≤ c * n := Nat.mul_le_mul_right n hh
    rw [Nat.add_mul, Nat.one_mul] at this
    rw [Nat.mul_comm n c]; omega
  · have e := Nat.div_add_mod (h * n + c - 1) c
    have l := Nat.mod_lt (h * n + c - 1) (show 0 < c by omega)
    generalize (h * n + c - 1) / c = q at e ⊢
    generalize (h * n + c - 1) % c = r at e l
    unfold disN
    rw [Nat.mul_comm q c]
    generalize c * q = m at e
    have : m = h * n + (m - h * n) := by omega
    rw [this, Nat.mul_comm h n, Nat.mul_add_div (by omega), Nat.div_eq_of_lt (by rw [Nat.mul_comm n h]; omega), Nat.add_zero]
theorem pl_mem {n c h k : Nat} {x : Int} (hx : x ∈ plL n c h k) : ∃ i, i < k ∧ disN n c i = h ∧ x = (i : Int) := by
  obtain ⟨i, hi, rfl⟩ := List.mem_map.1 hx
  obtain ⟨h1, h2⟩ := List.mem_filter.1 hi
  exact ⟨i, List.mem_range.1 h1, by simpa using h2, rfl⟩
theorem pl_pos {n c h : Nat} (hc : 1 ≤ c) (hn : c ≤ n) (hh : h < c) : 1 ≤ (plL n c h n).length := by
  obtain ⟨i, h1, h2⟩ := disN_hit hc hn hh
  have : (i : Int) ∈ plL n c h n := List.mem_map.2 ⟨i, List.mem_filter.2 ⟨List.mem_range.2 h1, by simp [h2]⟩, rfl⟩
  exact List.length_pos_of_mem this
theorem pl_le (n c h k : Nat) : (plL n c h k).length ≤ k := by
  unfold plL plN; rw [List.length_map]; exact Nat.le_trans (List.length_filter_le _ _) (by rw [List.length_range]; exact Nat.le_refl _)
theorem pl_snoc (n c h k : Nat) : plL n c h (k + 1) = plL n c h k ++ (if disN n c k = h then [(k : Int)] else []) := by
  unfold plL plN
  rw [List.range_succ, List.filter_append, List.map_append]
  by_cases e : disN n c k = h <;> simp [e]
theorem disL_len (n c : Nat) : (disL n c).length = n := by simp [disL]
theorem disL_at {n c i : Nat} (h : i < n) : (disL n c)[i]? = some ((disN n c i : Nat) : Int) := by simp [disL, h]

/-! ## The bounds -/
def EdOk (n : Nat) (e : E3) : Prop := (0 ≤ e.a ∧ e.a < n) ∧ (0 ≤ e.b ∧ e.b < n) ∧ 1 ≤ e.c ∧ e.c ≤ 9
theorem roll9 (s : Int) : 0 ≤ roll 9 s ∧ roll 9 s < 9 := roll_in 9 s (by omega)
theorem two_ok {n : Nat} {a b t : Int} (h0 : 0 ≤ a) (h1 : a < n) (h2 : 0 ≤ b) (h3 : b < n) (h4 : 1 ≤ t) (h5 : t ≤ 9) : ∀ e ∈ two a b t, EdOk n e := by
  intro e he
  rcases List.mem_cons.1 he with rfl | he
  · exact ⟨⟨h0, h1⟩, ⟨h2, h3⟩, h4, h5⟩
  · rcases List.mem_singleton.1 he with rfl; exact ⟨⟨h2, h3⟩, ⟨h0, h1⟩, h4, h5⟩
theorem ring_ok {n : Nat} (s : Int) : ∀ k, k ≤ n → (∀ e ∈ (ringS n s k).2, EdOk n e) ∧ (ringS n s k).2.length = 2 * k
  | 0, _ => ⟨fun e he => absurd he (by simp [ringS]), rfl⟩
  | k + 1, h => by
    obtain ⟨h1, h2⟩ := ring_ok (n := n) s k (by omega)
    refine ⟨fun e he => ?_, by simp only [ringS, List.length_append, h2, two, List.length_cons, List.length_nil]; omega⟩
    rcases List.mem_append.1 he with he | he
    · exact h1 e he
    · have := roll9 (ringS n s k).1
      have hm := Nat.mod_lt (k + 1) (show 0 < n by omega)
      exact two_ok (by omega) (by omega) (Int.natCast_nonneg _) (Int.ofNat_lt.2 hm) (by omega) (by omega) e he
theorem more_ok {n : Nat} (hn : 1 ≤ n) (p : Int × List E3) (hp : ∀ e ∈ p.2, EdOk n e) : ∀ k, (∀ e ∈ (moreS n p k).2, EdOk n e) ∧ (moreS n p k).2.length ≤ p.2.length + 2 * k ∧ (∀ e ∈ p.2, e ∈ (moreS n p k).2)
  | 0 => ⟨hp, Nat.le_refl _, fun _ h => h⟩
  | k + 1 => by
    obtain ⟨h1, h2, h3⟩ := more_ok hn p hp k
    simp only [moreS]
    split
    · exact ⟨h1, by omega, h3⟩
    · refine ⟨fun e he => ?_, by simp only [List.length_append, two, List.length_cons, List.length_nil]; omega, fun e he => List.mem_append_left _ (h3 e he)⟩
      rcases List.mem_append.1 he with he | he
      · exact h1 e he
      · have h9 := roll9 (aft n (aft n (moreS n p k).1))
        have ha := roll_in n (moreS n p k).1 (by omega)
        have hb := roll_in n (aft n (moreS n p k).1) (by omega)
        exact two_ok ha.1 ha.2 hb.1 hb.2 (by omega) (by omega) e he
theorem edg_ok {n : Nat} (hn : 1 ≤ n) (s : Int) : (∀ e ∈ (edgS n s).2, EdOk n e) ∧ (edgS n s).2.length ≤ 3 * n := by
  unfold edgS
  have hr : (∀ e ∈ (ring n s).2, EdOk n e) ∧ (ring n s).2.length ≤ 2 * n := by
    unfold ring; split
    · exact ⟨(ring_ok s n (Nat.le_refl _)).1, by rw [(ring_ok s n (Nat.le_refl _)).2]; exact Nat.le_refl _⟩
    · exact ⟨fun e he => absurd he (by simp), Nat.zero_le _⟩
  obtain ⟨h1, h2, _⟩ := more_ok hn (ring n s) hr.1 (n / 2)
  exact ⟨h1, by omega⟩
/-- The ring's edges are there. -/
theorem ring_in {n : Nat} (s : Int) : ∀ k i, i < k → ∃ t, (⟨(i : Int), (((i + 1) % n : Nat) : Int), t⟩ : E3) ∈ (ringS n s k).2
  | 0, i, h => absurd h (by omega)
  | k + 1, i, h => by
    rcases Nat.lt_or_ge i k with hi | hi
    · obtain ⟨t, ht⟩ := ring_in s k i hi
      exact ⟨t, List.mem_append_left _ ht⟩
    · obtain rfl : i = k := by omega
      exact ⟨_, List.mem_append_right _ (List.mem_cons_self ..)⟩
theorem edg_ring {n : Nat} (hn : 1 < n) (s : Int) {i : Nat} (hi : i < n) : ∃ t, (⟨(i : Int), (((i + 1) % n : Nat) : Int), t⟩ : E3) ∈ (edgS n s).2 := by
  obtain ⟨t, ht⟩ := ring_in s n i hi
  have hr : ring n s = ringS n s n := by rw [ring, if_pos hn]
  refine ⟨t, (more_ok (by omega) (ring n s) (by rw [hr]; exact (ring_ok s n (Nat.le_refl _)).1) (n / 2)).2.2 _ (by rw [hr]; exact ht)⟩
/-- What is closed under the edges and holds a node holds all nodes. -/
theorem closed_all {n : Nat} (hn : 1 ≤ n) (s : Int) (S : Nat → Prop) {a : Nat} (ha : a < n) (h0 : S a) (hS : ∀ e ∈ (edgS n s).2, ∀ i j : Nat, e.a = (i : Int) → e.b = (j : Int) → S i → S j) : ∀ i, i < n → S i := by
  rcases Nat.lt_or_ge 1 n with h | h
  · have st : ∀ i, i < n → S i → S ((i + 1) % n) := fun i hi hs => by
      obtain ⟨t, ht⟩ := edg_ring h s hi
      exact hS _ ht i _ rfl rfl hs
    have go : ∀ k, S ((a + k) % n) := fun k => by
      induction k with
      | zero => rw [Nat.add_zero, Nat.mod_eq_of_lt ha]; exact h0
      | succ k ih =>
        have := st _ (Nat.mod_lt _ (by omega)) ih
        rwa [Nat.mod_add_mod] at this
    intro i hi
    have := go (n + i - a)
    rwa [show a + (n + i - a) = n + i by omega, Nat.add_mod_left, Nat.mod_eq_of_lt hi] at this
  · intro i hi
    obtain rfl : i = a := by omega
    exact h0
end Go.Proofs.YtnejacmmbfeneaaDoor

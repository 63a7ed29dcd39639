import Derived.Test.YtnejacmmbfeneaaDoorNsP
namespace Go.Proofs.YtnejacmmbfeneaaDoor

/-! ## The reference's sets: ascending lists -/
theorem sorted_ext : ∀ {a b : List Int}, a.Pairwise (· < ·) → b.Pairwise (· < ·) → (∀ x, x ∈ a ↔ x ∈ b) → a = b
  | [], [], _, _, _ => rfl
  | [], y :: b, _, _, h => by have := (h y).2 (by simp); cases this
  | x :: a, [], _, _, h => by have := (h x).1 (by simp); cases this
  | x :: a, y :: b, ha, hb, h => by
    rw [List.pairwise_cons] at ha hb
    have h1 := (h x).1 (by simp)
    have h2 := (h y).2 (by simp)
    have e : x = y := by
      rw [List.mem_cons] at h1 h2
      rcases h1 with h1 | h1
      · exact h1
      · rcases h2 with h2 | h2
        · exact h2.symm
        · have := hb.1 x h1; have := ha.1 y h2; omega
    subst e
    congr 1
    refine sorted_ext ha.2 hb.2 fun z => ⟨fun hz => ?_, fun hz => ?_⟩
    · have := (h z).1 (by simp [hz])
      rw [List.mem_cons] at this
      rcases this with e | h3
      · subst e; have := ha.1 z hz; omega
      · exact h3
    · have := (h z).2 (by simp [hz])
      rw [List.mem_cons] at this
      rcases this with e | h3
      · subst e; have := hb.1 z hz; omega
      · exact h3
def elemsI (ws : List Nat) : List Int := (elemsW ws).map Int.ofNat
theorem elemsI_sorted (ws : List Nat) : (elemsI ws).Pairwise (· < ·) := by
  rw [elemsI, List.pairwise_map]
  refine List.Pairwise.imp ?_ (List.Pairwise.filter _ List.pairwise_lt_range)
  intro a b h
  exact Int.ofNat_lt.2 h
theorem mem_elemsI {ws : List Nat} (hl : ws.length = 64) {x : Int} : x ∈ elemsI ws ↔ 0 ≤ x ∧ memW ws x.toNat = true := by
  rw [elemsI, List.mem_map]
  constructor
  · rintro ⟨n, hn, rfl⟩
    exact ⟨Int.natCast_nonneg n, (mem_elems hl).1 hn⟩
  · rintro ⟨h0, h1⟩
    exact ⟨x.toNat, (mem_elems hl).2 h1, Int.toNat_of_nonneg h0⟩
theorem elemsI_bound {ws : List Nat} (hl : ws.length = 64) {x : Int} (h : x ∈ elemsI ws) : 0 ≤ x ∧ x < 4096 := by
  have h1 := (mem_elemsI hl).1 h
  have := memW_lt hl h1.2
  omega
theorem elemsI_len (ws : List Nat) : (elemsI ws).length = (elemsW ws).length := by simp [elemsI]
theorem elemsI_inj {a b : List Nat} (ha : OkW a) (hb : OkW b) (h : elemsI a = elemsI b) : a = b := elems_inj ha hb ((List.map_inj_right (f := Int.ofNat) (fun _x _y h => Int.ofNat.inj h)).1 h)
theorem elemsI_nil {ws : List Nat} (h : OkW ws) : elemsI ws = [] ↔ ws = zeroW := by rw [elemsI, List.map_eq_nil_iff, elems_nil h]
/-- a node into its place -/
def insR (x : Int) : List Int → List Int
  | [] => [x]
  | a :: r => if x < a then x :: a :: r else a :: insR x r
theorem insR_mem (x : Int) : ∀ (l : List Int) (y : Int), y ∈ insR x l ↔ y = x ∨ y ∈ l
  | [], y => by simp [insR]
  | a :: r, y => by
    rw [insR]
    split
    · simp
    · rw [List.mem_cons, insR_mem x r, List.mem_cons]
      constructor
      · rintro (h | h | h) <;> simp [h]
      · rintro (h | h | h) <;> simp [h]
theorem insR_sorted (x : Int) : ∀ l : List Int, l.Pairwise (· < ·) → x ∉ l → (insR x l).Pairwise (· < ·)
  | [], _, _ => by simp [insR]
  | a :: r, h, hx => by
    have h' := h
    rw [List.pairwise_cons] at h
    rw [insR]
    split
    · rename_i h1
      rw [List.pairwise_cons]
      refine ⟨fun y hy => ?_, h'⟩
      rw [List.mem_cons] at hy
      rcases hy with rfl | hy
      · exact h1
      · have := h.1 y hy; omega
    · rename_i h1
      rw [List.pairwise_cons]
      refine ⟨fun y hy => ?_, insR_sorted x r h.2 (fun e => hx (by simp [e]))⟩
      rcases (insR_mem x r y).1 hy with rfl | hy
      · have : y ≠ a := fun e => hx (by simp [e])
        omega
      · exact h.1 y hy
theorem insR_low {x : Int} : ∀ {l r : List Int}, (∀ a ∈ l, ¬ x < a) → insR x (l ++ r) = l ++ insR x r
  | [], _, _ => rfl
  | a :: l, r, h => by
    rw [List.cons_append, insR, if_neg (h a (by simp)), insR_low (fun b hb => h b (by simp [hb]))]; rfl
theorem insR_high {x : Int} : ∀ {l : List Int} (r : List Int), (∃ a ∈ l, x < a) → insR x (l ++ r) = insR x l ++ r
  | [], r, h => by obtain ⟨a, h, _⟩ := h; cases h
  | a :: l, r, h => by
    rw [List.cons_append, insR, insR]
    split
    · rfl
    · rename_i h1
      rw [List.cons_append]
      congr 1
      refine insR_high r ?_
      obtain ⟨b, hb, hx⟩ := h
      rw [List.mem_cons] at hb
      rcases hb with rfl | hb
      · exact absurd hx h1
      · exact ⟨b, hb, hx⟩
/-- the loop's state: whether the node was put, and the list so far -/
def anyGt (x : Int) (l : List Int) : Bool := l.any (fun a => decide (x < a))
def insTo (x : Int) (l : List Int) (k : Nat) : List Int := if anyGt x (l.take k) = true then insR x (l.take k) else l.take k
theorem take_snoc' {α : Type} {l : List α} {k : Nat} {a : α} (h : l[k]? = some a) : l.take (k + 1) = l.take k ++ [a] := by
  rw [List.take_add_one, h]; rfl
theorem anyGt_snoc {x a : Int} {l : List Int} {k : Nat} (h : l[k]? = some a) : anyGt x (l.take (k + 1)) = (anyGt x (l.take k) || decide (x < a)) := by
  rw [take_snoc' h, anyGt, List.any_append]; simp [anyGt]
theorem insTo_snoc {x a : Int} {l : List Int} {k : Nat} (h : l[k]? = some a) : insTo x l (k + 1) = insTo x l k ++ (if anyGt x (l.take k) = false ∧ x < a then [x, a] else [a]) := by
  rw [insTo, insTo, anyGt_snoc h, take_snoc' h]
  cases hp : anyGt x (l.take k)
  · have hlow : ∀ b ∈ l.take k, ¬ x < b := by
      intro b hb hx
      rw [anyGt, List.any_eq_false] at hp
      exact hp b hb (by simpa using hx)
    by_cases hx : x < a
    · simp [hx, insR_low hlow, insR]
    · simp [hx]
  · have hh : ∃ b ∈ l.take k, x < b := by
      rw [anyGt, List.any_eq_true] at hp
      obtain ⟨b, hb, hx⟩ := hp
      exact ⟨b, hb, by simpa using hx⟩
    simp [insR_high [a] hh]
theorem insTo_all {x : Int} {l : List Int} : insTo x l l.length ++ (if anyGt x l = true then [] else [x]) = insR x l := by
  rw [insTo, List.take_of_length_le (Nat.le_refl _)]
  cases hp : anyGt x l
  · have hlow : ∀ b ∈ l, ¬ x < b := by
      intro b hb hx
      rw [anyGt, List.any_eq_false] at hp
      exact hp b hb (by simpa using hx)
    have := insR_low (x := x) (r := []) hlow
    simp [insR] at this
    simp [this]
  · simp
def setStep (out : List Int) (x : Int) : List Int := if x < 0 ∨ 4096 ≤ x ∨ x ∈ out then out else insR x out
def setL (l : List Int) : List Int := l.foldl setStep []
theorem setL_snoc {l : List Int} {k : Nat} {x : Int} (h : l[k]? = some x) : setL (l.take (k + 1)) = setStep (setL (l.take k)) x := by
  rw [take_snoc' h, setL, setL, List.foldl_append]; rfl
theorem elems_add {ws : List Nat} (h : OkW ws) {n : Int} (h0 : 0 ≤ n) (h1 : n < 4096) : elemsI (addW ws n.toNat) = if n ∈ elemsI ws then elemsI ws else insR n (elemsI ws) := by
  have hm := addW_mem h (show n.toNat < 4096 by omega)
  have hok := addW_ok h n.toNat
  have key : ∀ y, y ∈ elemsI (addW ws n.toNat) ↔ y = n ∨ y ∈ elemsI ws := by
    intro y
    rw [mem_elemsI hok.len, mem_elemsI h.len, hm]
    constructor
    · rintro ⟨a, b⟩
      rw [Bool.or_eq_true, decide_eq_true_eq] at b
      rcases b with b | b
      · exact .inr ⟨a, b⟩
      · exact .inl (by omega)
    · rintro (rfl | ⟨a, b⟩)
      · exact ⟨h0, by simp⟩
      · exact ⟨a, by simp [b]⟩
  split
  · rename_i hn
    refine sorted_ext (elemsI_sorted _) (elemsI_sorted _) fun y => ?_
    rw [key]
    exact ⟨fun h => by rcases h with rfl | h; exact hn; exact h, .inr⟩
  · rename_i hn
    refine sorted_ext (elemsI_sorted _) (insR_sorted _ _ (elemsI_sorted _) hn) fun y => ?_
    rw [key, insR_mem]
theorem setL_eq (l : List Int) : setL l = elemsI (ofW l) := by
  have : ∀ (l : List Int) ws, OkW ws → l.foldl setStep (elemsI ws) = elemsI (l.foldl (fun ws n => if 0 ≤ n ∧ n < 4096 then addW ws n.toNat else ws) ws) := by
    intro l
    induction l with
    | nil => intro ws _; rw [List.foldl_nil, List.foldl_nil]
    | cons a l ih =>
      intro ws h
      rw [List.foldl_cons, List.foldl_cons]
      by_cases ha : 0 ≤ a ∧ a < 4096
      · have hst : setStep (elemsI ws) a = if a ∈ elemsI ws then elemsI ws else insR a (elemsI ws) := by
          rw [setStep]
          by_cases hm : a ∈ elemsI ws
          · rw [if_pos hm, if_pos (.inr (.inr hm))]
          · rw [if_neg hm, if_neg (by rintro (h | h | h); omega; omega; exact hm h)]
        rw [if_pos ha, ← ih _ (addW_ok h _), elems_add h ha.1 ha.2, hst]
      · rw [if_neg ha, ← ih _ h, setStep, if_pos (by omega)]
  have h := this l zeroW zeroW_ok
  have e0 : elemsI zeroW = [] := by rw [elemsI, elems_zero]; rfl
  rw [e0] at h
  unfold setL ofW
  exact h
def bothL (a b : List Int) : List Int := a.filter (fun x => b.contains x)
def andW (a b : List Nat) : List Nat := List.zipWith (· &&& ·) a b
theorem andW_ok {a b : List Nat} (ha : OkW a) (hb : OkW b) : OkW (andW a b) := zip_ok ha hb fun _x _y h => and_lt h
theorem andW_mem {a b : List Nat} (ha : OkW a) (hb : OkW b) (n : Nat) (hn : n < 4096) : memW (andW a b) n = (memW a n && memW b n) := zip_mem ha hb (fun x y j => Nat.testBit_and x y j) n hn
theorem both_eq {a b : List Nat} (ha : OkW a) (hb : OkW b) : bothL (elemsI a) (elemsI b) = elemsI (andW a b) := by
  refine sorted_ext (List.Pairwise.filter _ (elemsI_sorted a)) (elemsI_sorted _) fun y => ?_
  have hok := andW_ok ha hb
  rw [bothL, List.mem_filter, List.contains_iff_mem, mem_elemsI ha.len, mem_elemsI hb.len, mem_elemsI hok.len]
  constructor
  · rintro ⟨⟨h1, h2⟩, _, h3⟩
    exact ⟨h1, by rw [andW_mem ha hb _ (memW_lt ha.len h2), h2, h3]; rfl⟩
  · rintro ⟨h1, h2⟩
    rw [andW_mem ha hb _ (memW_lt hok.len h2), Bool.and_eq_true] at h2
    exact ⟨⟨h1, h2.1⟩, h1, h2.2⟩
end Go.Proofs.YtnejacmmbfeneaaDoor

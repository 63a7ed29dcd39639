import Derived.Test.YtafpcffhkbeloaaDoorLoE
import Derived.Test.YtafpcffhkbeloaaDoorRegT
import Derived.Test.YtafpcffhkbeloaaDoorRegU
namespace Go.Proofs.YtafpcffhkbeloaaDoor
open Go.RowKit

/-! ## Stable sorting, in plain words: a row is a function of its places; an element has a kind and a tag (its place at the start) -/
structure El where
  tag : Nat
  ad : Ad
def El.kd (x : El) : Int := x.ad.s.kd
def lex (x y : El) : Prop := x.kd < y.kd ∨ (x.kd = y.kd ∧ x.tag < y.tag)
theorem lex.trans {x y z : El} (h : lex x y) (k : lex y z) : lex x z := by
  unfold lex at *; omega
abbrev Arr := Nat → El
def SortedOn (f : Arr) (a b : Nat) : Prop := ∀ i j, a ≤ i → i < j → j < b → lex (f i) (f j)
def Cross (f : Arr) (a m b : Nat) : Prop := ∀ i j, a ≤ i → i < m → m ≤ j → j < b → (f i).kd = (f j).kd → (f i).tag < (f j).tag
def Stab (f : Arr) (a b : Nat) : Prop := ∀ i j, a ≤ i → i < j → j < b → (f i).kd = (f j).kd → (f i).tag < (f j).tag
theorem Cross.lex {f : Arr} {a m b : Nat} (h : Cross f a m b) {i j : Nat} (h1 : a ≤ i) (h2 : i < m) (h3 : m ≤ j) (h4 : j < b) (h5 : (f i).kd ≤ (f j).kd) : lex (f i) (f j) := by
  rcases Int.lt_or_eq_of_le h5 with h6 | h6
  · exact .inl h6
  · exact .inr ⟨h6, h i j h1 h2 h3 h4 h6⟩
theorem SortedOn.kd {f : Arr} {a b : Nat} (h : SortedOn f a b) {i j : Nat} (h1 : a ≤ i) (h2 : i ≤ j) (h3 : j < b) : (f i).kd ≤ (f j).kd := by
  rcases Nat.lt_or_eq_of_le h2 with h4 | rfl
  · have := h i j h1 h4 h3
    unfold Go.Proofs.YtafpcffhkbeloaaDoor.lex at this; omega
  · omega
theorem SortedOn.stab {f : Arr} {a b : Nat} (h : SortedOn f a b) : Stab f a b := fun i j h1 h2 h3 e => by
  have := h i j h1 h2 h3
  unfold lex at this; omega
theorem Stab.cross {f : Arr} {a b x m y : Nat} (h : Stab f a b) (h1 : a ≤ x) (h2 : y ≤ b) : Cross f x m y := fun i j g1 g2 g3 g4 => h i j (by omega) (by omega) (by omega)
theorem SortedOn.sub {f : Arr} {a b x y : Nat} (h : SortedOn f a b) (h1 : a ≤ x) (h2 : y ≤ b) : SortedOn f x y := fun i j g1 g2 g3 => h i j (by omega) g2 (by omega)

/-! ### a row's parts change places -/
def rotI (a m b : Nat) (i : Nat) : Nat := if a ≤ i ∧ i < a + (b - m) then i + (m - a) else if a + (b - m) ≤ i ∧ i < b then i - (b - m) else i
def rot (a m b : Nat) (f : Arr) : Arr := fun i => f (rotI a m b i)
def sw (a b n : Nat) (f : Arr) : Arr := fun i => if a ≤ i ∧ i < a + n then f (i - a + b) else if b ≤ i ∧ i < b + n then f (i - b + a) else f i
def swp2 (i j : Nat) (f : Arr) : Arr := fun k => if k = i then f j else if k = j then f i else f k
/-- f' is f, its places from a to b in another order -/
def PermOn (a b : Nat) (f f' : Arr) : Prop := ∃ s t : Nat → Nat, (∀ i, s (t i) = i) ∧ (∀ i, t (s i) = i) ∧ (∀ i, ¬ (a ≤ i ∧ i < b) → s i = i) ∧ f' = fun i => f (s i)
theorem PermOn.refl (a b : Nat) (f : Arr) : PermOn a b f f := ⟨id, id, fun _ => rfl, fun _ => rfl, fun _ _ => rfl, rfl⟩
theorem PermOn.trans {a b : Nat} {f g h : Arr} (h1 : PermOn a b f g) (h2 : PermOn a b g h) : PermOn a b f h := by
  obtain ⟨s, t, e1, e2, e3, rfl⟩ := h1
  obtain ⟨s', t', e1', e2', e3', rfl⟩ := h2
  exact ⟨fun i => s (s' i), fun i => t' (t i), fun i => by simp [e1, e1'], fun i => by simp [e2, e2'], fun i hi => by simp [e3' i hi, e3 i hi], rfl⟩
theorem PermOn.wide {a b a' b' : Nat} {f g : Arr} (h : PermOn a b f g) (h1 : a' ≤ a) (h2 : b ≤ b') : PermOn a' b' f g := by
  obtain ⟨s, t, e1, e2, e3, e4⟩ := h
  exact ⟨s, t, e1, e2, fun i hi => e3 i (by omega), e4⟩
theorem PermOn.out {a b : Nat} {f g : Arr} (h : PermOn a b f g) {i : Nat} (hi : ¬ (a ≤ i ∧ i < b)) : g i = f i := by
  obtain ⟨s, t, e1, e2, e3, rfl⟩ := h
  show f (s i) = f i
  rw [e3 i hi]
theorem PermOn.in_ {a b : Nat} {f g : Arr} (h : PermOn a b f g) {i : Nat} (hi : a ≤ i ∧ i < b) : ∃ j, (a ≤ j ∧ j < b) ∧ g i = f j := by
  obtain ⟨s, t, e1, e2, e3, rfl⟩ := h
  refine ⟨s i, ?_, rfl⟩
  by_cases h1 : a ≤ s i ∧ s i < b
  · exact h1
  · exfalso
    have h2 := e3 (s i) h1
    have h3 : t (s (s i)) = t (s i) := by rw [h2]
    rw [e2, e2] at h3
    rw [h3] at h1
    exact h1 hi
theorem PermOn.inv {a b : Nat} {f g : Arr} (h : PermOn a b f g) : PermOn a b g f := by
  obtain ⟨s, t, e1, e2, e3, rfl⟩ := h
  refine ⟨t, s, e2, e1, fun i hi => ?_, by funext i; simp [e1]⟩
  have := e2 i
  rwa [e3 i hi] at this
theorem rot_perm (a m b : Nat) (f : Arr) (h1 : a ≤ m) (h2 : m ≤ b) : PermOn a b f (rot a m b f) := by
  refine ⟨rotI a m b, rotI a (a + (b - m)) b, fun i => ?_, fun i => ?_, fun i hi => ?_, rfl⟩
  · simp only [rotI]; (repeat' split) <;> omega
  · simp only [rotI]; (repeat' split) <;> omega
  · simp only [rotI]; (repeat' split) <;> omega
theorem swp2_perm {a b i j : Nat} (f : Arr) (h1 : a ≤ i ∧ i < b) (h2 : a ≤ j ∧ j < b) : PermOn a b f (swp2 i j f) := by
  refine ⟨fun k => if k = i then j else if k = j then i else k, fun k => if k = i then j else if k = j then i else k, fun k => ?_, fun k => ?_, fun k hk => ?_, ?_⟩
  · simp only []; (repeat' split) <;> omega
  · simp only []; (repeat' split) <;> omega
  · simp only []; (repeat' split) <;> omega
  · funext k; simp only [swp2]; (repeat' split) <;> rfl

/-! ### the loops' steps -/
theorem sw_zero (a b : Nat) (f : Arr) : sw a b 0 f = f := by
  funext i; simp only [sw]; (repeat' split) <;> first | rfl | (exfalso; omega)
theorem sw_succ (a b k : Nat) (f : Arr) (h : a + k < b) : sw a b (k + 1) f = swp2 (a + k) (b + k) (sw a b k f) := by
  funext i; simp only [sw, swp2]
  (repeat' split) <;> first | rfl | (exfalso; omega) | (congr 1; omega)
theorem rot_left (_a m _b : Nat) (g : Arr) (i j : Nat) (h1 : i ≤ m) (h2 : j < i) (h3 : 0 < j) : rot (m - (i - j)) m (m + j) (sw (m - i) m j g) = rot (m - i) m (m + j) g := by
  funext x; simp only [rot, rotI, sw]
  (repeat' split) <;> first | rfl | (exfalso; omega) | (congr 1; omega)
theorem rot_right (_a m _b : Nat) (g : Arr) (i j : Nat) (h1 : i ≤ m) (h2 : i < j) (h3 : 0 < i) : rot (m - i) m (m + (j - i)) (sw (m - i) (m + j - i) i g) = rot (m - i) m (m + j) g := by
  funext x; simp only [rot, rotI, sw]
  (repeat' split) <;> first | rfl | (exfalso; omega) | (congr 1; omega)
theorem rot_even (m : Nat) (g : Arr) (i : Nat) (h1 : i ≤ m) : sw (m - i) m i g = rot (m - i) m (m + i) g := by
  funext x; simp only [rot, rotI, sw]
  (repeat' split) <;> first | rfl | (exfalso; omega) | (congr 1; omega)
theorem rot_none_l (m b : Nat) (f : Arr) : rot m m b f = f := by
  funext x; simp only [rot, rotI]
  (repeat' split) <;> first | rfl | (exfalso; omega) | (congr 1; omega)
theorem rot_none_r (a m : Nat) (f : Arr) (_h : a ≤ m) : rot a m m f = f := by
  funext x; simp only [rot, rotI]
  (repeat' split) <;> first | rfl | (exfalso; omega) | (congr 1; omega)
/-- one place further up -/
theorem rot_up (a k : Nat) (f : Arr) (h : a ≤ k) : rot a (a + 1) (k + 2) f = swp2 k (k + 1) (rot a (a + 1) (k + 1) f) := by
  funext x; simp only [rot, rotI, swp2]
  (repeat' split) <;> first | rfl | (exfalso; omega) | (congr 1; omega)
/-- one place further down -/
theorem rot_down (k m : Nat) (f : Arr) (h : k < m) : rot k m (m + 1) f = swp2 (k + 1) k (rot (k + 1) m (m + 1) f) := by
  funext x; simp only [rot, rotI, swp2]
  (repeat' split) <;> first | rfl | (exfalso; omega) | (congr 1; omega)

/-! ### merging -/
/-- the last element of [a, m + 1) goes to its place -/
theorem insert_down {f : Arr} {a j m : Nat} (hs : SortedOn f a m) (hc : Cross f a m (m + 1)) (h1 : a ≤ j) (h2 : j ≤ m) (hl : j = a ∨ (f (j - 1)).kd ≤ (f m).kd) (hr : j = m ∨ (f m).kd < (f j).kd) : SortedOn (rot j m (m + 1) f) a (m + 1) := by
  have e : ∀ x, rot j m (m + 1) f x = if x = j then f m else if j < x ∧ x ≤ m then f (x - 1) else f x := by
    intro x; simp only [rot, rotI]
    (repeat' split) <;> first | rfl | (exfalso; omega) | (congr 1; omega)
  have low : ∀ i, a ≤ i → i < j → lex (f i) (f m) := by
    intro i g1 g2
    refine hc.lex g1 (by omega) (Nat.le_refl _) (by omega) ?_
    rcases hl with h | h
    · omega
    · have := hs.kd (i := i) (j := j - 1) g1 (by omega) (by omega)
      omega
  have high : ∀ i, j ≤ i → i < m → lex (f m) (f i) := by
    intro i g1 g2
    rcases hr with h | h
    · omega
    · have := hs.kd (i := j) (j := i) h1 g1 g2
      exact .inl (by omega)
  intro x y g1 g2 g3
  rw [e, e]
  by_cases hx : x = j
  · rw [if_pos hx, if_neg (by omega), if_pos ⟨by omega, by omega⟩]
    exact high (y - 1) (by omega) (by omega)
  · rw [if_neg hx]
    by_cases hx2 : j < x ∧ x ≤ m
    · rw [if_pos hx2, if_neg (by omega), if_pos ⟨by omega, by omega⟩]
      exact hs (x - 1) (y - 1) (by omega) (by omega) (by omega)
    · rw [if_neg hx2]
      by_cases hy : y = j
      · rw [if_pos hy]; exact low x g1 (by omega)
      · rw [if_neg hy]
        by_cases hy2 : j < y ∧ y ≤ m
        · rw [if_pos hy2]; exact hs x (y - 1) g1 (by omega) (by omega)
        · rw [if_neg hy2]; exact hs x y g1 g2 (by omega)
/-- the first element of [a, b) goes to its place -/
theorem insert_up {f : Arr} {a i b : Nat} (hs : SortedOn f (a + 1) b) (hc : Cross f a (a + 1) b) (h1 : a + 1 ≤ i) (h2 : i ≤ b) (hl : i = a + 1 ∨ (f (i - 1)).kd < (f a).kd) (hr : i = b ∨ (f a).kd ≤ (f i).kd) : SortedOn (rot a (a + 1) i f) a b := by
  have e : ∀ x, rot a (a + 1) i f x = if x = i - 1 then f a else if a ≤ x ∧ x < i - 1 then f (x + 1) else f x := by
    intro x; simp only [rot, rotI]
    (repeat' split) <;> first | rfl | (exfalso; omega) | (congr 1; omega)
  have low : ∀ t, a + 1 ≤ t → t < i → lex (f t) (f a) := by
    intro t g1 g2
    rcases hl with h | h
    · omega
    · have := hs.kd (i := t) (j := i - 1) g1 (by omega) (by omega)
      exact .inl (by omega)
  have high : ∀ t, i ≤ t → t < b → lex (f a) (f t) := by
    intro t g1 g2
    refine hc.lex (Nat.le_refl _) (by omega) (by omega) g2 ?_
    rcases hr with h | h
    · omega
    · have := hs.kd (i := i) (j := t) (by omega) g1 g2
      omega
  intro x y g1 g2 g3
  rw [e, e]
  by_cases hx : x = i - 1
  · rw [if_pos hx, if_neg (by omega), if_neg (by omega)]
    exact high y (by omega) g3
  · rw [if_neg hx]
    by_cases hx2 : a ≤ x ∧ x < i - 1
    · rw [if_pos hx2]
      by_cases hy : y = i - 1
      · rw [if_pos hy]; exact low (x + 1) (by omega) (by omega)
      · rw [if_neg hy]
        by_cases hy2 : a ≤ y ∧ y < i - 1
        · rw [if_pos hy2]; exact hs (x + 1) (y + 1) (by omega) (by omega) (by omega)
        · rw [if_neg hy2]; exact hs (x + 1) y (by omega) (by omega) g3
    · rw [if_neg hx2, if_neg (by omega), if_neg (by omega)]
      exact hs x y (by omega) g2 g3
/-- the cut of a merge: start and end mirror each other about n - 1 = p -/
structure CutAt (f : Arr) (a m b lo hi p s : Nat) : Prop where
  l : lo ≤ s
  h : s ≤ hi
  left : s = lo ∨ (f (s - 1)).kd ≤ (f (p - (s - 1))).kd
  right : s = hi ∨ (f (p - s)).kd < (f s).kd
theorem merge_cut {f : Arr} {a m b s n : Nat} (_h1 : a < m) (_h2 : m < b) (hn : n = (a + b) / 2 + m) (hA : SortedOn f a m) (hB : SortedOn f m b) (hc : Cross f a m b)
    (hcut : CutAt f a m b (if m > (a + b) / 2 then n - b else a) (if m > (a + b) / 2 then (a + b) / 2 else m) (n - 1) s) :
    a ≤ s ∧ s ≤ m ∧ s ≤ (a + b) / 2 ∧ m ≤ n - s ∧ n - s ≤ b ∧ (a + b) / 2 ≤ n - s ∧ (∀ i j, a ≤ i → i < s → n - s ≤ j → j < b → lex (f i) (f j)) ∧ (∀ i j, s ≤ i → i < m → m ≤ j → j < n - s → lex (f j) (f i)) := by
  obtain ⟨c1, c2, c3, c4⟩ := hcut
  generalize hmid : (a + b) / 2 = mid at *
  have hm1 : 2 * mid ≤ a + b := by omega
  have hm2 : a + b ≤ 2 * mid + 1 := by omega
  have hb : (a ≤ s ∧ s ≤ m ∧ s ≤ mid ∧ m ≤ n - s ∧ n - s ≤ b ∧ mid ≤ n - s) := by
    by_cases hg : m > mid
    · rw [if_pos hg] at c1 c2; omega
    · rw [if_neg hg] at c1 c2; omega
  obtain ⟨b1, b2, b3, b4, b5, b6⟩ := hb
  refine ⟨b1, b2, b3, b4, b5, b6, ?_, ?_⟩
  · intro i j g1 g2 g3 g4
    refine hc.lex g1 (by omega) (by omega) g4 ?_
    rcases c3 with c3 | c3
    · by_cases hg : m > mid
      · rw [if_pos hg] at c3; omega
      · rw [if_neg hg] at c3; omega
    · have e : n - 1 - (s - 1) = n - s := by omega
      rw [e] at c3
      have k1 := hA.kd (i := i) (j := s - 1) g1 (by omega) (by omega)
      have k2 := hB.kd (i := n - s) (j := j) (by omega) g3 g4
      omega
  · intro i j g1 g2 g3 g4
    rcases c4 with c4 | c4
    · by_cases hg : m > mid
      · rw [if_pos hg] at c4; omega
      · rw [if_neg hg] at c4; omega
    · have e : n - 1 - s = n - s - 1 := by omega
      rw [e] at c4
      have k1 := hB.kd (i := j) (j := n - s - 1) g3 (by omega) (by omega)
      have k2 := hA.kd (i := s) (j := i) b1 g1 g2
      exact .inl (by omega)
/-- what the turn leaves: two merges, apart -/
theorem merge_parts {f : Arr} {a m b s e mid : Nat} (hA : SortedOn f a m) (hB : SortedOn f m b) (hc : Cross f a m b) (b1 : a ≤ s) (b2 : s ≤ m) (b4 : m ≤ e) (b5 : e ≤ b) (hmid : mid + m = e + s) :
    SortedOn (rot s m e f) a s ∧ SortedOn (rot s m e f) s mid ∧ Cross (rot s m e f) a s mid ∧ SortedOn (rot s m e f) mid e ∧ SortedOn (rot s m e f) e b ∧ Cross (rot s m e f) mid e b := by
  have e1 : ∀ x, ¬ (s ≤ x ∧ x < e) → rot s m e f x = f x := by
    intro x hx; simp only [rot, rotI]
    (repeat' split) <;> first | rfl | (exfalso; omega) | (congr 1; omega)
  have e2 : ∀ x, s ≤ x → x < mid → rot s m e f x = f (x + (m - s)) := by
    intro x h1 h2; simp only [rot, rotI]
    (repeat' split) <;> first | rfl | (exfalso; omega) | (congr 1; omega)
  have e3 : ∀ x, mid ≤ x → x < e → rot s m e f x = f (x - (e - m)) := by
    intro x h1 h2; simp only [rot, rotI]
    (repeat' split) <;> first | rfl | (exfalso; omega) | (congr 1; omega)
  refine ⟨fun i j g1 g2 g3 => ?_, fun i j g1 g2 g3 => ?_, fun i j g1 g2 g3 g4 => ?_, fun i j g1 g2 g3 => ?_, fun i j g1 g2 g3 => ?_, fun i j g1 g2 g3 g4 => ?_⟩
  · rw [e1 i (by omega), e1 j (by omega)]; exact hA i j g1 g2 (by omega)
  · rw [e2 i g1 (by omega), e2 j (by omega) g3]; exact hB _ _ (by omega) (by omega) (by omega)
  · rw [e1 i (by omega), e2 j g3 g4]; exact hc _ _ g1 (by omega) (by omega) (by omega)
  · rw [e3 i g1 (by omega), e3 j (by omega) g3]; exact hA _ _ (by omega) (by omega) (by omega)
  · rw [e1 i (by omega), e1 j (by omega)]; exact hB i j (by omega) g2 g3
  · rw [e3 i g1 g2, e1 j (by omega)]; exact hc _ _ (by omega) (by omega) (by omega) g4
/-- the two merged parts are one sorted row -/
theorem merge_join {f g1 g2 : Arr} {a m b s e mid : Nat} (hA : SortedOn f a m) (hB : SortedOn f m b) (_b1 : a ≤ s) (b2 : s ≤ m) (b4 : m ≤ e) (_b5 : e ≤ b) (hmid : mid + m = e + s)
    (hx : ∀ i j, a ≤ i → i < s → e ≤ j → j < b → lex (f i) (f j)) (hy : ∀ i j, s ≤ i → i < m → m ≤ j → j < e → lex (f j) (f i))
    (p1 : PermOn a mid (rot s m e f) g1) (s1 : SortedOn g1 a mid) (p2 : PermOn mid b g1 g2) (s2 : SortedOn g2 mid b) : SortedOn g2 a b := by
  have e1 : ∀ x, ¬ (s ≤ x ∧ x < e) → rot s m e f x = f x := by
    intro x hx; simp only [rot, rotI]
    (repeat' split) <;> first | rfl | (exfalso; omega) | (congr 1; omega)
  have e2 : ∀ x, s ≤ x → x < mid → rot s m e f x = f (x + (m - s)) := by
    intro x h1 h2; simp only [rot, rotI]
    (repeat' split) <;> first | rfl | (exfalso; omega) | (congr 1; omega)
  have e3 : ∀ x, mid ≤ x → x < e → rot s m e f x = f (x - (e - m)) := by
    intro x h1 h2; simp only [rot, rotI]
    (repeat' split) <;> first | rfl | (exfalso; omega) | (congr 1; omega)
  have low : ∀ x y, a ≤ x → x < mid → mid ≤ y → y < b → lex (rot s m e f x) (rot s m e f y) := by
    intro x y h1 h2 h3 h4
    by_cases c1 : x < s
    · rw [e1 x (by omega)]
      by_cases c2 : y < e
      · rw [e3 y h3 c2]; exact hA _ _ h1 (by omega) (by omega)
      · rw [e1 y (by omega)]; exact hx _ _ h1 c1 (by omega) h4
    · rw [e2 x (by omega) h2]
      by_cases c2 : y < e
      · rw [e3 y h3 c2]; exact hy _ _ (by omega) (by omega) (by omega) (by omega)
      · rw [e1 y (by omega)]; exact hB _ _ (by omega) (by omega) h4
  intro i j h1 h2 h3
  by_cases c1 : j < mid
  · rw [p2.out (by omega), p2.out (by omega)]; exact s1 i j h1 h2 c1
  · by_cases c2 : mid ≤ i
    · exact s2 i j c2 h2 h3
    · rw [p2.out (i := i) (by omega)]
      obtain ⟨x, hx1, hx2⟩ := p1.in_ (i := i) (by omega)
      obtain ⟨y, hy1, hy2⟩ := p2.in_ (i := j) (by omega)
      rw [hx2, hy2, p1.out (by omega)]
      exact low x y (by omega) (by omega) (by omega) (by omega)
theorem stab_step {f g : Arr} {n a b : Nat} (h : Stab f 0 n) (hp : PermOn a b f g) (hs : SortedOn g a b) (hb : b ≤ n) : Stab g 0 n := by
  intro i j _ h2 h3 e
  by_cases c1 : a ≤ i ∧ i < b
  · by_cases c2 : a ≤ j ∧ j < b
    · exact hs.stab i j c1.1 h2 c2.2 e
    · obtain ⟨x, hx1, hx2⟩ := hp.in_ c1
      rw [hx2, hp.out c2] at e ⊢
      exact h x j (Nat.zero_le _) (by omega) h3 e
  · rw [hp.out c1] at e ⊢
    by_cases c2 : a ≤ j ∧ j < b
    · obtain ⟨y, hy1, hy2⟩ := hp.in_ c2
      rw [hy2] at e ⊢
      exact h i y (Nat.zero_le _) (by omega) (by omega) e
    · rw [hp.out c2] at e ⊢
      exact h i j (Nat.zero_le _) h2 h3 e
end Go.Proofs.YtafpcffhkbeloaaDoor
namespace Go.Proofs.YtafpcffhkbeloaaDoor
open Go.RowKit

/-! ## The row of sources -/
def fcells (n : Nat) (f : Arr) : List Value := (List.range n).flatMap (fun i => (f i).ad.cells)
theorem fcells_len (n : Nat) (f : Arr) : (fcells n f).length = n * 3 := by
  rw [fcells, flat_len (fun i => (f i).ad.cells) 3 (fun _ => rfl), List.length_range]
theorem fcells_at {n : Nat} (f : Arr) {i j : Nat} (hi : i < n) (hj : j < 3) : (fcells n f)[i * 3 + j]? = (f i).ad.cells[j]? := by
  rw [fcells, flat_get (fun i => (f i).ad.cells) 3 (fun _ => rfl) _ i j hj, List.getElem?_range hi]; rfl
theorem fcells_ext {n : Nat} {cs : List Value} (f : Arr) (hl : cs.length = n * 3) (h : ∀ i j, i < n → j < 3 → cs[i * 3 + j]? = (f i).ad.cells[j]?) : cs = fcells n f := by
  apply List.ext_getElem?
  intro k
  by_cases hk : k < n * 3
  · have e : k = k / 3 * 3 + k % 3 := by omega
    rw [e, h (k / 3) (k % 3) (by omega) (by omega), fcells_at f (by omega) (by omega)]
  · rw [List.getElem?_eq_none (by omega), List.getElem?_eq_none (by rw [fcells_len]; omega)]
def upd (f : Arr) (i : Nat) (x : El) : Arr := fun k => if k = i then x else f k
theorem upd_swp (f : Arr) (i j : Nat) : upd (upd f i (f j)) j (f i) = swp2 i j f := by
  funext k
  simp only [upd, swp2]
  (repeat' split) <;> first | rfl | (exfalso; omega) | simp_all
def Rw (w : World) (base gb n c : Nat) (f : Arr) : Prop := Own w base 77 3 (.slice (some ⟨gb, 0, none⟩) n c) n (fcells n f)
theorem Rw.keep {S : Nat → Prop} {w w' : World} {base gb n c : Nat} {f : Arr} (h : Rw w base gb n c f) (hk : Keep S w w') (hS : ¬ S gb) : Rw w' base gb n c f :=
  Own.keepB h hk (fun g e => by
    have e2 : gb = g := by injection e
    rw [← e2]; exact hS)
theorem Rw.same {w w' : World} {base gb n c : Nat} {f : Arr} (h : Rw w base gb n c f) (hk : Same w w') : Rw w' base gb n c f := h.keep hk (fun f => f)
theorem Rw.range {w : World} {base gb n c : Nat} {f : Arr} (h : Rw w base gb n c f) {i : Nat} (hi : i < n) : w.rangeAt gb (i * 3) (f i).ad.cells := by
  intro j v hv
  have hj : j < 3 := (List.getElem?_eq_some_iff.1 hv).1
  exact Own.cell h (by rw [fcells_at f hi hj]; exact hv)
theorem Rw.there {w : World} {base gb n c : Nat} {f : Arr} (h : Rw w base gb n c f) {i : Nat} (hi : i < n) : w.there gb (i * 3) 3 := by
  intro j hj
  refine ⟨?_, Own.free h (by omega) _⟩
  have hr := h.range hi
  rw [hr j _ (List.getElem?_eq_getElem (by exact hj))]; rfl
theorem Rw.there2 {w : World} {base gb n c : Nat} {f : Arr} (h : Rw w base gb n c f) {i : Nat} (hi : i < n) (x : El) : w.there gb (i * 3) x.ad.cells.toArray.size := h.there hi
theorem Rw.put {w : World} {base gb n c : Nat} {f : Arr} (h : Rw w base gb n c f) {i : Nat} (hi : i < n) (x : El) : Rw (w.setCells gb (i * 3) x.ad.cells) base gb n c (upd f i x) := by
  have h1 := Own.put (Own.put (Own.put h (by omega) (i * 3) (.int .i64 x.ad.s.kd)) (by omega) (i * 3 + 1) (.slice x.ad.s.A x.ad.s.ns.length x.ad.s.c)) (by omega) (i * 3 + 1 + 1) (.bool x.ad.ok)
  have e : ((((fcells n f).set (i * 3) (.int .i64 x.ad.s.kd)).set (i * 3 + 1) (.slice x.ad.s.A x.ad.s.ns.length x.ad.s.c)).set (i * 3 + 1 + 1) (.bool x.ad.ok)) = fcells n (upd f i x) := by
    apply fcells_ext
    · simp [fcells_len]
    · intro k j hk hj
      have hl := fcells_len n f
      by_cases hki : k = i
      · subst hki
        rw [show upd f k x k = x from by simp [upd]]
        match j, hj with
        | 0, _ => rw [List.getElem?_set_ne (by omega), List.getElem?_set_ne (by omega)]; show ((fcells n f).set (k * 3) (.int .i64 x.ad.s.kd))[k * 3]? = _; rw [List.getElem?_set_self (by omega)]; rfl
        | 1, _ => rw [List.getElem?_set_ne (by omega), List.getElem?_set_self (by rw [List.length_set]; omega)]; rfl
        | 2, _ => rw [List.getElem?_set_self (by rw [List.length_set, List.length_set]; omega)]; rfl
      · rw [List.getElem?_set_ne (by omega), List.getElem?_set_ne (by omega), List.getElem?_set_ne (by omega), fcells_at f hk hj]
        rw [show upd f i x k = f k from by simp [upd, hki]]
  rw [e] at h1
  exact h1
theorem Keep.cells {g : Nat} (w : World) (o : Nat) (vs : List Value) : Keep (· = g) w (w.setCells g o vs) := by
  induction vs generalizing o w with
  | nil => exact Keep.refl _ _
  | cons v r ih => rw [World.setCells]; exact ((Keep.refl _ w).put o v).trans (ih _ _) (fun i _ e => e)
theorem Rw.exchange {w : World} {base gb n c : Nat} {f : Arr} (h : Rw w base gb n c f) {i j : Nat} (hi : i < n) (hj : j < n) : Rw ((w.setCells gb (i * 3) (f j).ad.cells).setCells gb (j * 3) (f i).ad.cells) base gb n c (swp2 i j f) ∧ Keep (· = gb) w ((w.setCells gb (i * 3) (f j).ad.cells).setCells gb (j * 3) (f i).ad.cells) :=
  ⟨by rw [← upd_swp]; exact (h.put hi (f j)).put hj (f i), (Keep.cells w _ _).trans (Keep.cells _ _ _) (fun _ _ e => e)⟩
theorem ad_one2 (a : Ad) : ∀ u ∈ a.cells, u.oneCell' = true := by
  intro u hu
  simp only [Ad.cells, List.mem_cons, List.not_mem_nil, or_false] at hu
  rcases hu with rfl | rfl | rfl <;> rfl
section
variable {P : Program} {ops : Array Oper} {o : Oper} {a : Act} {w : World} {K : Act → World → Prop} {Q : Exit → Act → World → Prop} {F : Prop}
theorem wpAnyH_norm {md : Region.Mode} {S : World → Prop} {fuel fuel' : Nat} {listed listed' : Array Bool} (h1 : fuel = fuel') (h2 : listed = listed') (h : wpAnyH P md ops Q S fuel' listed' a w) : wpAnyH P md ops Q S fuel listed a w := by rw [h1, h2]; exact h
theorem load_mid_step (hg : o.guard = none) (ty : TypeId) (x : Operand) (ho : o.op = .load ty x) (b of : Nat) (hx : a.eval x = .pointer (some ⟨b, of, none⟩)) (cs : List Value) (d : TypeDesc) (hc : w.rangeAt b of cs)
    (hu : P.underlying ty = some d) (hd : d.isRow = true) (hi : (P.info? ty).map (·.size) = some cs.length) (hK : K (a.put o.dst (.agg cs.toArray)) w) :
    if Region.wanted o (yielded ops a.tmps) = true then Oper.wp P o a w K Q else F := by
  rw [if_pos (by simp [Region.wanted, hg])]
  exact wp_load_mid ty x ho b of hx cs d hc hu hd hi hK
theorem store_mid_step (hg : o.guard = none) (ty : TypeId) (x y : Operand) (ho : o.op = .store ty x y) (b of : Nat) (cells : Array Value) (hx : a.eval x = .pointer (some ⟨b, of, none⟩)) (hy : a.eval y = .agg cells)
    (ht : w.there b of cells.size) (hi : (P.info? ty).map (·.size) = some cells.size) (h1 : cells.all (·.oneCell') = true) (hK : K (a.put o.dst undef) (w.setCells b of cells.toList)) :
    if Region.wanted o (yielded ops a.tmps) = true then Oper.wp P o a w K Q else F := by
  rw [if_pos (by simp [Region.wanted, hg])]
  exact wp_store_mid ty x y ho b of cells hx hy ht hi h1 hK
end
set_option maxRecDepth 100000 in
set_option maxHeartbeats 4000000 in
theorem cmp_any (w : World) (x y : El) (hx : 0 ≤ x.kd ∧ x.kd ≤ 9) (hy : 0 ≤ y.kd ∧ y.kd ≤ 9) :
    Calls Tryd.prog 47 #[.agg x.ad.cells.toArray, .agg y.ad.cells.toArray] w fun e w' => e = .returned (.int .i64 (x.kd - y.kd)) ∧ Same w w' := by
  have hk : Same w ((w.alloc (.cells x.ad.cells.toArray 77)).alloc (.cells y.ad.cells.toArray 77)) := ((Keep.refl _ _).alloc _).alloc _
  have ha := (Blk.made w 77 x.ad.cells.toArray).alloc (.cells y.ad.cells.toArray 77)
  have hb := Blk.made (w.alloc (.cells x.ad.cells.toArray 77)) 77 y.ad.cells.toArray
  rw [World.size_alloc] at hb
  unfold El.kd at *
  go_enter Tryd.func47, Tryd.ntmps47
  go_upto_region 1 with fail
  generalize ((w.alloc (.cells x.ad.cells.toArray 77)).alloc (.cells y.ad.cells.toArray 77)) = w1 at *
  have c0 : w1.cell? ⟨w.heap.size, 0, none⟩ = some (.int .i64 x.ad.s.kd) := ha.at_ 0
  have c1 : w1.cell? ⟨w.heap.size + 1, 0, none⟩ = some (.int .i64 y.ad.s.kd) := hb.at_ 0
  have HK := hid hk
  clear ha hb hk
  go_wp2_with fail
  go_ret
  exact ⟨rfl, HK.out⟩
theorem one_restX {F G : World → Prop} {goal : Prop} (main : (∀ W, F W → G W) → goal) (rest : ∀ W, F W → G W) : goal := main rest
set_option maxRecDepth 100000 in
set_option maxHeartbeats 8000000 in
theorem swr_any (w : World) (base gb n c : Nat) (f : Arr) (h : Rw w base gb n c f) (hn : n ≤ 1000) (a b k : Nat) (h1 : a + k ≤ b) (h2 : b + k ≤ n) (fv : Value) :
    Calls Tryd.prog 56 #[.slice (some ⟨gb, 0, none⟩) n c, .int .i64 a, .int .i64 b, .int .i64 k, fv] w fun e w' => e = .returned (.tuple #[]) ∧ Rw w' base gb n c (sw a b k f) ∧ Keep (fun i => i = gb) w w' := by
  have HR := hid h
  clear h
  go_enter Tryd.func56, Tryd.ntmps56
  go_wp2_with fail
  go_loopw [10] (fun i wr => ∃ t : Nat, t ≤ k ∧ i = .int .i64 t ∧ Hid (Rw wr base gb n c (sw a b t f) ∧ Keep (fun i => i = gb) w wr)) (fun i _ => k - (RowKit.intOf i).toNat)
  case atStart => exact ⟨0, by omega, rfl, hid ⟨by rw [sw_zero]; exact HR.out, Keep.refl _ _⟩⟩
  case round =>
    obtain ⟨t, ht, rfl, HI⟩ := hrel
    by_cases hlt : t < k
    · have hk1 : (t : Int) < (k : Int) := by omega
      obtain ⟨p, hp⟩ : ∃ p, p = a + t := ⟨_, rfl⟩
      obtain ⟨q, hq⟩ : ∃ q, q = b + t := ⟨_, rfl⟩
      have r1 : IntKind.i64.wrap ((a : Int) + (t : Int)) = (p : Int) := by rw [IntKind.wrap_i64]; omega
      have r2 : IntKind.i64.wrap ((b : Int) + (t : Int)) = (q : Int) := by rw [IntKind.wrap_i64]; omega
      have b1 : (p : Int) < (n : Int) := by omega
      have b2 : (q : Int) < (n : Int) := by omega
      have HSU := hid (show sw a b (t + 1) f = swp2 p q (sw a b t f) from by rw [hp, hq]; exact sw_succ a b t f (by omega))
      clear hp hq
      obtain ⟨g, hg⟩ : ∃ g, g = sw a b t f := ⟨_, rfl⟩
      rw [← hg] at HI HSU
      clear hg
      go_upto_region 3 with fail
      refine wp_region_held_drew (S := fun _ => True) (by kernel_rfl) trivial (fun hHeld => ?_)
      refine takeO (i := 0) (v := ?_) (by kernel_rfl) (by kernel_rfl) (by kernel_rfl) (fun c a d v w h => by cases d <;> exact h) (oi := ?_) ?_ ?_ (by assumption) ?_
      rotate_left 2
      · (simp only [List.getElem?_toArray, List.getElem?_cons_zero]; rfl)
      · (refine Or.inl ⟨by rfl, ?_⟩; intro w hSw; (try dsimp only at hSw); go_simp; try with_reducible rfl)
      try simp only [Act.put, List.setIfInBounds_toArray, List.set_cons_zero, List.set_cons_succ]
      refine takeO (i := 1) (v := ?_) (by kernel_rfl) (by kernel_rfl) (by kernel_rfl) (fun c a d v w h => by cases d <;> exact h) (oi := ?_) ?_ ?_ (by assumption) ?_
      rotate_left 2
      · (simp only [List.getElem?_toArray, List.getElem?_cons_succ, List.getElem?_cons_zero]; rfl)
      · (refine Or.inl ⟨by rfl, ?_⟩; intro w hSw; (try dsimp only at hSw); go_simp; try with_reducible rfl)
      try simp only [Act.put, List.setIfInBounds_toArray, List.set_cons_zero, List.set_cons_succ]
      refine takeO (i := 2) (v := ?_) (by kernel_rfl) (by kernel_rfl) (by kernel_rfl) (fun c a d v w h => by cases d <;> exact h) (oi := ?_) ?_ ?_ (by assumption) ?_
      rotate_left 2
      · (simp only [List.getElem?_toArray, List.getElem?_cons_succ, List.getElem?_cons_zero]; rfl)
      · (refine Or.inl ⟨by rfl, ?_⟩; intro w hSw; (try dsimp only at hSw); go_simp; try with_reducible rfl)
      try simp only [Act.put, List.setIfInBounds_toArray, List.set_cons_zero, List.set_cons_succ]
      refine takeO (i := 3) (v := ?_) (by kernel_rfl) (by kernel_rfl) (by kernel_rfl) (fun c a d v w h => by cases d <;> exact h) (oi := ?_) ?_ ?_ (by assumption) ?_
      rotate_left 2
      · (simp only [List.getElem?_toArray, List.getElem?_cons_succ, List.getElem?_cons_zero]; rfl)
      · (refine Or.inl ⟨by rfl, ?_⟩; intro w hSw; (try dsimp only at hSw); go_simp; try with_reducible rfl)
      try simp only [Act.put, List.setIfInBounds_toArray, List.set_cons_zero, List.set_cons_succ]
      refine takeO (i := 4) (v := ?_) (by kernel_rfl) (by kernel_rfl) (by kernel_rfl) (fun c a d v w h => by cases d <;> exact h) (oi := ?_) ?_ ?_ (by assumption) ?_
      rotate_left 2
      · (simp only [List.getElem?_toArray, List.getElem?_cons_succ, List.getElem?_cons_zero]; rfl)
      · (refine Or.inl ⟨by rfl, ?_⟩; intro w hSw; (try dsimp only at hSw); go_simp; try with_reducible rfl)
      try simp only [Act.put, List.setIfInBounds_toArray, List.set_cons_zero, List.set_cons_succ]
      refine takeO (i := 5) (v := ?_) (by kernel_rfl) (by kernel_rfl) (by kernel_rfl) (fun c a d v w h => by cases d <;> exact h) (oi := ?_) ?_ ?_ (by assumption) ?_
      rotate_left 2
      · (simp only [List.getElem?_toArray, List.getElem?_cons_succ, List.getElem?_cons_zero]; rfl)
      · (refine Or.inl ⟨by rfl, ?_⟩; intro w hSw; (try dsimp only at hSw); go_simp; try with_reducible rfl)
      try simp only [Act.put, List.setIfInBounds_toArray, List.set_cons_zero, List.set_cons_succ]
      refine takeO (i := 6) (v := ?_) (by kernel_rfl) (by kernel_rfl) (by kernel_rfl) (fun c a d v w h => by cases d <;> exact h) (oi := ?_) ?_ ?_ (by assumption) ?_
      rotate_left 2
      · (simp only [List.getElem?_toArray, List.getElem?_cons_succ, List.getElem?_cons_zero]; rfl)
      · (refine Or.inl ⟨by rfl, ?_⟩; intro w hSw; (try dsimp only at hSw); go_simp; try with_reducible rfl)
      try simp only [Act.put, List.setIfInBounds_toArray, List.set_cons_zero, List.set_cons_succ]
      refine takeO (i := 7) (v := ?_) (by kernel_rfl) (by kernel_rfl) (by kernel_rfl) (fun c a d v w h => by cases d <;> exact h) (oi := ?_) ?_ ?_ (by assumption) ?_
      rotate_left 2
      · (simp only [List.getElem?_toArray, List.getElem?_cons_succ, List.getElem?_cons_zero]; rfl)
      · (refine Or.inl ⟨by rfl, ?_⟩; intro w hSw; (try dsimp only at hSw); go_simp; try with_reducible rfl)
      try simp only [Act.put, List.setIfInBounds_toArray, List.set_cons_zero, List.set_cons_succ]
      refine takeO (i := 8) (v := ?_) (by kernel_rfl) (by kernel_rfl) (by kernel_rfl) (fun c a d v w h => by cases d <;> exact h) (oi := ?_) ?_ ?_ (by assumption) ?_
      rotate_left 2
      · (simp only [List.getElem?_toArray, List.getElem?_cons_succ, List.getElem?_cons_zero]; rfl)
      · (refine Or.inl ⟨by rfl, ?_⟩; intro w hSw; (try dsimp only at hSw); go_simp; try with_reducible rfl)
      try simp only [Act.put, List.setIfInBounds_toArray, List.set_cons_zero, List.set_cons_succ]
      refine takeO (i := 9) (v := ?_) (by kernel_rfl) (by kernel_rfl) (by kernel_rfl) (fun c a d v w h => by cases d <;> exact h) (oi := ?_) ?_ ?_ (by assumption) ?_
      rotate_left 2
      · (simp only [List.getElem?_toArray, List.getElem?_cons_succ, List.getElem?_cons_zero]; rfl)
      · (refine Or.inl ⟨by rfl, ?_⟩; intro w hSw; (try dsimp only at hSw); go_simp; try with_reducible rfl)
      try simp only [Act.put, List.setIfInBounds_toArray, List.set_cons_zero, List.set_cons_succ]
      refine takeO (i := 10) (v := ?_) (by kernel_rfl) (by kernel_rfl) (by kernel_rfl) (fun c a d v w h => by cases d <;> exact h) (oi := ?_) ?_ ?_ (by assumption) ?_
      rotate_left 2
      · (simp only [List.getElem?_toArray, List.getElem?_cons_succ, List.getElem?_cons_zero]; rfl)
      · (refine Or.inl ⟨by rfl, ?_⟩; intro w hSw; (try dsimp only at hSw); go_simp; try with_reducible rfl)
      try simp only [Act.put, List.setIfInBounds_toArray, List.set_cons_zero, List.set_cons_succ]
      refine takeO (i := 11) (v := ?_) (by kernel_rfl) (by kernel_rfl) (by kernel_rfl) (fun c a d v w h => by cases d <;> exact h) (oi := ?_) ?_ ?_ (by assumption) ?_
      rotate_left 2
      · (simp only [List.getElem?_toArray, List.getElem?_cons_succ, List.getElem?_cons_zero]; rfl)
      · (refine Or.inl ⟨by rfl, ?_⟩; intro w hSw; (try dsimp only at hSw); go_simp; try with_reducible rfl)
      try simp only [Act.put, List.setIfInBounds_toArray, List.set_cons_zero, List.set_cons_succ]
      refine takeO (i := 12) (v := ?_) (by kernel_rfl) (by kernel_rfl) (by kernel_rfl) (fun c a d v w h => by cases d <;> exact h) (oi := ?_) ?_ ?_ (by assumption) ?_
      rotate_left 2
      · (simp only [List.getElem?_toArray, List.getElem?_cons_succ, List.getElem?_cons_zero]; rfl)
      · (refine Or.inl ⟨by rfl, ?_⟩; intro w hSw; (try dsimp only at hSw); go_simp; try with_reducible rfl)
      try simp only [Act.put, List.setIfInBounds_toArray, List.set_cons_zero, List.set_cons_succ]
      refine takeO (i := 14) (v := ?_) (by kernel_rfl) (by kernel_rfl) (by kernel_rfl) (fun c a d v w h => by cases d <;> exact h) (oi := ?_) ?_ ?_ (by assumption) ?_
      rotate_left 2
      · (simp only [List.getElem?_toArray, List.getElem?_cons_succ, List.getElem?_cons_zero]; rfl)
      · (refine Or.inl ⟨by rfl, ?_⟩; intro w hSw; (try dsimp only at hSw); go_simp; try with_reducible rfl)
      try simp only [Act.put, List.setIfInBounds_toArray, List.set_cons_zero, List.set_cons_succ]
      refine takeO (i := 15) (v := ?_) (by kernel_rfl) (by kernel_rfl) (by kernel_rfl) (fun c a d v w h => by cases d <;> exact h) (oi := ?_) ?_ ?_ (by assumption) ?_
      rotate_left 2
      · (simp only [List.getElem?_toArray, List.getElem?_cons_succ, List.getElem?_cons_zero]; rfl)
      · (refine Or.inl ⟨by rfl, ?_⟩; intro w hSw; (try dsimp only at hSw); go_simp; try with_reducible rfl)
      try simp only [Act.put, List.setIfInBounds_toArray, List.set_cons_zero, List.set_cons_succ]
      refine takeO (i := 16) (v := ?_) (by kernel_rfl) (by kernel_rfl) (by kernel_rfl) (fun c a d v w h => by cases d <;> exact h) (oi := ?_) ?_ ?_ (by assumption) ?_
      rotate_left 2
      · (simp only [List.getElem?_toArray, List.getElem?_cons_succ, List.getElem?_cons_zero]; rfl)
      · (refine Or.inl ⟨by rfl, ?_⟩; intro w hSw; (try dsimp only at hSw); go_simp; try with_reducible rfl)
      try simp only [Act.put, List.setIfInBounds_toArray, List.set_cons_zero, List.set_cons_succ]
      refine takeO (i := 17) (v := ?_) (by kernel_rfl) (by kernel_rfl) (by kernel_rfl) (fun c a d v w h => by cases d <;> exact h) (oi := ?_) ?_ ?_ (by assumption) ?_
      rotate_left 2
      · (simp only [List.getElem?_toArray, List.getElem?_cons_succ, List.getElem?_cons_zero]; rfl)
      · (refine Or.inl ⟨by rfl, ?_⟩; intro w hSw; (try dsimp only at hSw); go_simp; try with_reducible rfl)
      try simp only [Act.put, List.setIfInBounds_toArray, List.set_cons_zero, List.set_cons_succ]
      refine takeO (i := 18) (v := ?_) (by kernel_rfl) (by kernel_rfl) (by kernel_rfl) (fun c a d v w h => by cases d <;> exact h) (oi := ?_) ?_ ?_ (by assumption) ?_
      rotate_left 2
      · (simp only [List.getElem?_toArray, List.getElem?_cons_succ, List.getElem?_cons_zero]; rfl)
      · (refine Or.inl ⟨by rfl, ?_⟩; intro w hSw; (try dsimp only at hSw); go_simp; try with_reducible rfl)
      try simp only [Act.put, List.setIfInBounds_toArray, List.set_cons_zero, List.set_cons_succ]
      refine wpAnyH_norm (fuel' := 6) (listed' := #[true, true, true, true, true, true, true, true, true, true, true, true, true, false, true, true, true, true, true, false, false, false, false, false]) (by kernel_rfl) (by kernel_rfl) ?_
      have hRd := Rw.same HI.out.1 (Keep.refl _ wr).drew
      have hKd := (Keep.refl (fun i => i = gb) wr).drew
      generalize wr.drew = wd at *
      apply one_restX (F := fun W => Rw W base gb n c (swp2 (p) (q) g) ∧ Keep (fun i => i = gb) wr W)
      case main =>
        intro REST
        refine wpAnyH_ready (rs := [13, 19]) (by kernel_rfl) (by simp) ?_
        refine AllReadyH.cons rfl (fun K hK => ?_) (AllReadyH.cons rfl (fun K hK => ?_) AllReadyH.nil)
        · refine load_mid_step rfl _ (.tmp 28) rfl gb (q * 3) rfl (g (q)).ad.cells _ (hRd.range (by omega)) Tryd.underlying77 rfl (by kernel_rfl) ?_
          refine hK.out _ _ trivial (fun hHelda => ?_)
          clear hK K
          try simp only [Act.put, List.setIfInBounds_toArray, List.set_cons_zero, List.set_cons_succ]
          refine wpAnyH_ready (rs := [19]) (by kernel_rfl) (by simp) ?_
          refine AllReadyH.cons (o := ?_) ?_ (fun K hK => ?_) AllReadyH.nil
          rotate_left 1
          · (simp only [List.getElem?_toArray, List.getElem?_cons_succ, List.getElem?_cons_zero]; rfl)
          refine load_mid_step rfl _ (.tmp 34) rfl gb (p * 3) rfl (g (p)).ad.cells _ (hRd.range (by omega)) Tryd.underlying77 rfl (by kernel_rfl) ?_
          refine hK.out _ _ trivial (fun hHeldb => ?_)
          clear hK K
          try simp only [Act.put, List.setIfInBounds_toArray, List.set_cons_zero, List.set_cons_succ]
          refine wpAnyH_norm (fuel' := 4) (listed' := #[true, true, true, true, true, true, true, true, true, true, true, true, true, true, true, true, true, true, true, true, false, false, false, false]) (by kernel_rfl) (by kernel_rfl) ?_
          refine takeO (i := 20) (v := ?_) (by kernel_rfl) (by kernel_rfl) (by kernel_rfl) (fun c a d v w h => by cases d <;> exact h) (oi := ?_) ?_ ?_ (by assumption) ?_
          rotate_left 2
          · (simp only [List.getElem?_toArray, List.getElem?_cons_succ, List.getElem?_cons_zero]; rfl)
          · (refine Or.inl ⟨by rfl, ?_⟩; intro w hSw; (try dsimp only at hSw); go_simp; try with_reducible rfl)
          try simp only [Act.put, List.setIfInBounds_toArray, List.set_cons_zero, List.set_cons_succ]
          refine wpAnyH_norm (fuel' := 3) (listed' := #[true, true, true, true, true, true, true, true, true, true, true, true, true, true, true, true, true, true, true, true, true, false, false, false]) (by kernel_rfl) (by kernel_rfl) ?_
          have ho1 := one_toArray (ad_one2 (g (q)).ad)
          have ho2 := one_toArray (ad_one2 (g (p)).ad)
          have ht1 := hRd.there2 (i := p) (by omega) (g (q))
          have hP := hRd.put (i := p) (by omega) (g (q))
          have hK1 := Keep.cells (g := gb) wd (p * 3) (g (q)).ad.cells
          refine wpAnyH_ready (rs := [21]) (by kernel_rfl) (by simp) ?_
          refine AllReadyH.cons (o := ?_) ?_ (fun K hK => ?_) AllReadyH.nil
          rotate_left 1
          · (simp only [List.getElem?_toArray, List.getElem?_cons_succ, List.getElem?_cons_zero]; rfl)
          with_reducible refine store_mid_step ?_ 77 (.tmp 36) (.tmp 29) ?_ gb (p * 3) (g (q)).ad.cells.toArray ?_ ?_ ht1 ?_ ho1 ?_
          · rfl
          · rfl
          · rfl
          · rfl
          · kernel_rfl
          try simp only
          generalize (wd.setCells gb (p * 3) (g (q)).ad.cells) = we at *
          refine hK.out _ _ trivial (fun hHeldS => ?_)
          clear hK K
          try simp only [Act.put, List.setIfInBounds_toArray, List.set_cons_zero, List.set_cons_succ]
          refine wpAnyH_norm (fuel' := 2) (listed' := #[true, true, true, true, true, true, true, true, true, true, true, true, true, true, true, true, true, true, true, true, true, true, false, false]) (by kernel_rfl) (by kernel_rfl) ?_
          refine takeO (i := 22) (v := ?_) (by kernel_rfl) (by kernel_rfl) (by kernel_rfl) (fun c a d v w h => by cases d <;> exact h) (oi := ?_) ?_ ?_ (by assumption) ?_
          rotate_left 2
          · (simp only [List.getElem?_toArray, List.getElem?_cons_succ, List.getElem?_cons_zero]; rfl)
          · (refine Or.inl ⟨by rfl, ?_⟩; intro w hSw; (try dsimp only at hSw); go_simp; try with_reducible rfl)
          try simp only [Act.put, List.setIfInBounds_toArray, List.set_cons_zero, List.set_cons_succ]
          refine wpAnyH_norm (fuel' := 1) (listed' := #[true, true, true, true, true, true, true, true, true, true, true, true, true, true, true, true, true, true, true, true, true, true, true, false]) (by kernel_rfl) (by kernel_rfl) ?_
          have ht2 := hP.there2 (i := q) (by omega) (g (p))
          have hP2 := hP.put (i := q) (by omega) (g (p))
          rw [upd_swp] at hP2
          have hK2 := Keep.cells (g := gb) we (q * 3) (g (p)).ad.cells
          refine wpAnyH_ready (rs := [23]) (by kernel_rfl) (by simp) ?_
          refine AllReadyH.cons (o := ?_) ?_ (fun K hK => ?_) AllReadyH.nil
          rotate_left 1
          · (simp only [List.getElem?_toArray, List.getElem?_cons_succ, List.getElem?_cons_zero]; rfl)
          with_reducible refine store_mid_step ?_ 77 (.tmp 37) (.tmp 35) ?_ gb (q * 3) (g (p)).ad.cells.toArray ?_ ?_ ht2 ?_ ho2 ?_
          · rfl
          · rfl
          · rfl
          · rfl
          · kernel_rfl
          try simp only
          generalize (we.setCells gb (q * 3) (g (p)).ad.cells) = wz at *
          refine hK.out _ _ trivial (fun hHeldT => ?_)
          clear hK K
          try simp only [Act.put, List.setIfInBounds_toArray, List.set_cons_zero, List.set_cons_succ]
          refine wpAnyH_done (by kernel_rfl) ?_ _
          exact REST wz ⟨hP2, (hKd.trans hK1 (fun _ _ e => e)).trans hK2 (fun _ _ e => e)⟩
        · refine load_mid_step rfl _ (.tmp 34) rfl gb (p * 3) rfl (g (p)).ad.cells _ (hRd.range (by omega)) Tryd.underlying77 rfl (by kernel_rfl) ?_
          refine hK.out _ _ trivial (fun hHelda => ?_)
          clear hK K
          try simp only [Act.put, List.setIfInBounds_toArray, List.set_cons_zero, List.set_cons_succ]
          refine wpAnyH_ready (rs := [13]) (by kernel_rfl) (by simp) ?_
          refine AllReadyH.cons (o := ?_) ?_ (fun K hK => ?_) AllReadyH.nil
          rotate_left 1
          · (simp only [List.getElem?_toArray, List.getElem?_cons_succ, List.getElem?_cons_zero]; rfl)
          refine load_mid_step rfl _ (.tmp 28) rfl gb (q * 3) rfl (g (q)).ad.cells _ (hRd.range (by omega)) Tryd.underlying77 rfl (by kernel_rfl) ?_
          refine hK.out _ _ trivial (fun hHeldb => ?_)
          clear hK K
          try simp only [Act.put, List.setIfInBounds_toArray, List.set_cons_zero, List.set_cons_succ]
          refine wpAnyH_norm (fuel' := 4) (listed' := #[true, true, true, true, true, true, true, true, true, true, true, true, true, true, true, true, true, true, true, true, false, false, false, false]) (by kernel_rfl) (by kernel_rfl) ?_
          refine takeO (i := 20) (v := ?_) (by kernel_rfl) (by kernel_rfl) (by kernel_rfl) (fun c a d v w h => by cases d <;> exact h) (oi := ?_) ?_ ?_ (by assumption) ?_
          rotate_left 2
          · (simp only [List.getElem?_toArray, List.getElem?_cons_succ, List.getElem?_cons_zero]; rfl)
          · (refine Or.inl ⟨by rfl, ?_⟩; intro w hSw; (try dsimp only at hSw); go_simp; try with_reducible rfl)
          try simp only [Act.put, List.setIfInBounds_toArray, List.set_cons_zero, List.set_cons_succ]
          refine wpAnyH_norm (fuel' := 3) (listed' := #[true, true, true, true, true, true, true, true, true, true, true, true, true, true, true, true, true, true, true, true, true, false, false, false]) (by kernel_rfl) (by kernel_rfl) ?_
          have ho1 := one_toArray (ad_one2 (g (q)).ad)
          have ho2 := one_toArray (ad_one2 (g (p)).ad)
          have ht1 := hRd.there2 (i := p) (by omega) (g (q))
          have hP := hRd.put (i := p) (by omega) (g (q))
          have hK1 := Keep.cells (g := gb) wd (p * 3) (g (q)).ad.cells
          refine wpAnyH_ready (rs := [21]) (by kernel_rfl) (by simp) ?_
          refine AllReadyH.cons (o := ?_) ?_ (fun K hK => ?_) AllReadyH.nil
          rotate_left 1
          · (simp only [List.getElem?_toArray, List.getElem?_cons_succ, List.getElem?_cons_zero]; rfl)
          with_reducible refine store_mid_step ?_ 77 (.tmp 36) (.tmp 29) ?_ gb (p * 3) (g (q)).ad.cells.toArray ?_ ?_ ht1 ?_ ho1 ?_
          · rfl
          · rfl
          · rfl
          · rfl
          · kernel_rfl
          try simp only
          generalize (wd.setCells gb (p * 3) (g (q)).ad.cells) = we at *
          refine hK.out _ _ trivial (fun hHeldS => ?_)
          clear hK K
          try simp only [Act.put, List.setIfInBounds_toArray, List.set_cons_zero, List.set_cons_succ]
          refine wpAnyH_norm (fuel' := 2) (listed' := #[true, true, true, true, true, true, true, true, true, true, true, true, true, true, true, true, true, true, true, true, true, true, false, false]) (by kernel_rfl) (by kernel_rfl) ?_
          refine takeO (i := 22) (v := ?_) (by kernel_rfl) (by kernel_rfl) (by kernel_rfl) (fun c a d v w h => by cases d <;> exact h) (oi := ?_) ?_ ?_ (by assumption) ?_
          rotate_left 2
          · (simp only [List.getElem?_toArray, List.getElem?_cons_succ, List.getElem?_cons_zero]; rfl)
          · (refine Or.inl ⟨by rfl, ?_⟩; intro w hSw; (try dsimp only at hSw); go_simp; try with_reducible rfl)
          try simp only [Act.put, List.setIfInBounds_toArray, List.set_cons_zero, List.set_cons_succ]
          refine wpAnyH_norm (fuel' := 1) (listed' := #[true, true, true, true, true, true, true, true, true, true, true, true, true, true, true, true, true, true, true, true, true, true, true, false]) (by kernel_rfl) (by kernel_rfl) ?_
          have ht2 := hP.there2 (i := q) (by omega) (g (p))
          have hP2 := hP.put (i := q) (by omega) (g (p))
          rw [upd_swp] at hP2
          have hK2 := Keep.cells (g := gb) we (q * 3) (g (p)).ad.cells
          refine wpAnyH_ready (rs := [23]) (by kernel_rfl) (by simp) ?_
          refine AllReadyH.cons (o := ?_) ?_ (fun K hK => ?_) AllReadyH.nil
          rotate_left 1
          · (simp only [List.getElem?_toArray, List.getElem?_cons_succ, List.getElem?_cons_zero]; rfl)
          with_reducible refine store_mid_step ?_ 77 (.tmp 37) (.tmp 35) ?_ gb (q * 3) (g (p)).ad.cells.toArray ?_ ?_ ht2 ?_ ho2 ?_
          · rfl
          · rfl
          · rfl
          · rfl
          · kernel_rfl
          try simp only
          generalize (we.setCells gb (q * 3) (g (p)).ad.cells) = wz at *
          refine hK.out _ _ trivial (fun hHeldT => ?_)
          clear hK K
          try simp only [Act.put, List.setIfInBounds_toArray, List.set_cons_zero, List.set_cons_succ]
          refine wpAnyH_done (by kernel_rfl) ?_ _
          exact REST wz ⟨hP2, (hKd.trans hK1 (fun _ _ e => e)).trans hK2 (fun _ _ e => e)⟩
      case rest =>
        intro W hF
        have HF := hid hF
        clear hF
        go_wp2_with fail
        go_roundw
        case rel => exact ⟨t + 1, by omega, by go_num, hid ⟨by rw [HSU.out]; exact HF.out.1, HI.out.2.trans HF.out.2 (fun _ _ e => e)⟩⟩
        case measure => simp only [RowKit.intOf]; omega
    · obtain rfl : t = k := by omega
      go_wp2_with fail
      go_end0
      exact ⟨rfl, HI.out.1, HI.out.2⟩
end Go.Proofs.YtafpcffhkbeloaaDoor
namespace Go.Proofs.YtafpcffhkbeloaaDoor
open Go.RowKit

/-! ## rotate -/
theorem swr_int (w : World) (base gb n c : Nat) (f : Arr) (h : Rw w base gb n c f) (hn : n ≤ 1000) (a b k : Nat) (h1 : a + k ≤ b) (h2 : b + k ≤ n) (fv : Value) (A B K : Int) (hA : A = a) (hB : B = b) (hK : K = k) :
    Calls Tryd.prog 56 #[.slice (some ⟨gb, 0, none⟩) n c, .int .i64 A, .int .i64 B, .int .i64 K, fv] w fun e w' => e = .returned (.tuple #[]) ∧ Rw w' base gb n c (sw a b k f) ∧ Keep (fun i => i = gb) w w' := by
  subst hA hB hK
  exact swr_any w base gb n c f h hn a b k h1 h2 fv
set_option maxRecDepth 100000 in
set_option maxHeartbeats 8000000 in
theorem rot_any (w : World) (base gb n c : Nat) (f : Arr) (h : Rw w base gb n c f) (hn : n ≤ 1000) (a m b : Nat) (h1 : a < m) (h2 : m < b) (h3 : b ≤ n) (fv : Value) (A M B : Int) (hA : A = a) (hM : M = m) (hB : B = b) :
    Calls Tryd.prog 55 #[.slice (some ⟨gb, 0, none⟩) n c, .int .i64 A, .int .i64 M, .int .i64 B, fv] w fun e w' => e = .returned (.tuple #[]) ∧ Rw w' base gb n c (rot a m b f) ∧ Keep (fun i => i = gb) w w' := by
  subst hA hM hB
  have HR := hid h
  clear h
  go_enter Tryd.func55, Tryd.ntmps55
  go_wp2_with fail
  go_loopw [10, 11] (fun vi vj wr => ∃ (i j : Nat) (g : Arr), vi = .int .i64 i ∧ vj = .int .i64 j ∧ 0 < i ∧ 0 < j ∧ i ≤ m ∧ m + j ≤ n ∧ Hid (Rw wr base gb n c g ∧ rot (m - i) m (m + j) g = rot a m b f ∧ Keep (fun i => i = gb) w wr)) (fun vi vj _ => (RowKit.intOf vi).toNat + (RowKit.intOf vj).toNat)
  case atStart => exact ⟨m - a, b - m, f, by go_num, by go_num, by omega, by omega, by omega, by omega, hid ⟨HR.out, by rw [show m - (m - a) = a from by omega, show m + (b - m) = b from by omega], Keep.refl _ _⟩⟩
  case round =>
    obtain ⟨i, j, g, rfl, rfl, hi, hj, him, hjn, HI⟩ := hrel
    by_cases hne : i = j
    · subst hne
      go_wp2_with ((with_reducible refine (swr_int _ base gb n c g HI.out.1 hn (m - i) m i (by omega) (by omega) _ _ _ _ (by omega) rfl rfl).mono ?_); rintro e w2 ⟨rfl, hr2, hk2⟩; have HR2 := hid hr2; have HK2 := hid hk2; clear hr2 hk2)
      go_end0
      exact ⟨rfl, by rw [← HI.out.2.1, ← rot_even m g i him]; exact HR2.out, HI.out.2.2.trans HK2.out (fun _ _ e => e)⟩
    · have hne2 : ((i : Int) == (j : Int)) = false := by rw [beq_eq_false_iff_ne]; omega
      by_cases hgt : j < i
      · have hg1 : (i : Int) > (j : Int) := by omega
        have HS := hid (rot_left a m b g i j him hgt hj)
        go_wp2_with ((with_reducible refine (swr_int _ base gb n c g HI.out.1 hn (m - i) m j (by omega) (by omega) _ _ _ _ (by omega) rfl rfl).mono ?_); rintro e w2 ⟨rfl, hr2, hk2⟩; have HR2 := hid hr2; have HK2 := hid hk2; clear hr2 hk2)
        go_roundw
        case rel => exact ⟨i - j, j, _, by go_num, rfl, by omega, hj, by omega, hjn, hid ⟨HR2.out, HS.out.trans HI.out.2.1, HI.out.2.2.trans HK2.out (fun _ _ e => e)⟩⟩
        case measure => simp [RowKit.intOf]; omega
      · have hg1 : ¬ (i : Int) > (j : Int) := by omega
        have HS := hid (rot_right a m b g i j him (by omega) hi)
        go_wp2_with ((with_reducible refine (swr_int _ base gb n c g HI.out.1 hn (m - i) (m + j - i) i (by omega) (by omega) _ _ _ _ (by omega) (by omega) rfl).mono ?_); rintro e w2 ⟨rfl, hr2, hk2⟩; have HR2 := hid hr2; have HK2 := hid hk2; clear hr2 hk2)
        go_roundw
        case rel => exact ⟨i, j - i, _, rfl, by go_num, hi, by omega, him, by omega, hid ⟨HR2.out, HS.out.trans HI.out.2.1, HI.out.2.2.trans HK2.out (fun _ _ e => e)⟩⟩
        case measure => simp [RowKit.intOf]; omega
end Go.Proofs.YtafpcffhkbeloaaDoor

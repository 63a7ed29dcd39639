import Derived.Test.YtkkenfgpmoediaaWireA
namespace Go.Proofs.Ytkkenfgpmoediaa
open Go

/-! ## Values: their encodings, and how they are read -/
structure Tg where
  k : Int
  n : Int
  b : Bool
  d : List UInt8
  l : List Int
def zeroT (k : Int) : Tg := ⟨k, 0, false, [], []⟩
def onlyT (t : Tg) : Tg := if t.k = 0 then ⟨0, t.n, false, [], []⟩ else if t.k = 1 then ⟨1, 0, t.b, [], []⟩ else if t.k = 4 then ⟨4, 0, false, [], t.l⟩ else ⟨t.k, 0, false, t.d, []⟩
def encD (d : List UInt8) : List UInt8 := encI (d.length : Int) ++ d
def encB (b : Bool) : List UInt8 := [if b = true then 1 else 0]
def encIs (l : List Int) : List UInt8 := l.flatMap encI
def encL (l : List Int) : List UInt8 := encI (l.length : Int) ++ encIs l
def putT (t : Tg) : List UInt8 := if t.k = 0 then encI t.n else if t.k = 1 then encB t.b else if t.k = 2 ∨ t.k = 3 then encD t.d else if t.k = 4 then encL t.l else []
structure OkT (t : Tg) : Prop where
  k0 : 0 ≤ t.k
  k4 : t.k ≤ 4
  n : i64ok t.n
  d : t.d.length ≤ 1000000
  l : t.l.length ≤ 1000000
  e : ∀ x ∈ t.l, i64ok x

def rdMany (s : RS) : Int × RS :=
  if ¬ (rdInt s).2.err = 0 then (0, (rdInt s).2) else if (rdInt s).1 < 0 then (0, ⟨[], 2⟩) else if ((rdInt s).2.rest.length : Int) < (rdInt s).1 then (0, ⟨[], 11⟩) else rdInt s
def rdBool (s : RS) : Bool × RS :=
  if ¬ s.err = 0 then (false, s) else match s.rest with
    | [] => (false, ⟨[], 11⟩)
    | b :: r => if 1 < b.toNat then (false, ⟨[], 2⟩) else (decide (b.toNat = 1), ⟨r, 0⟩)
def rdBytes (s : RS) : List UInt8 × RS :=
  if ¬ (rdMany s).2.err = 0 then ([], (rdMany s).2) else ((rdMany s).2.rest.take (rdMany s).1.toNat, ⟨(rdMany s).2.rest.drop (rdMany s).1.toNat, 0⟩)
def rdL : Nat → List Int → RS → List Int × RS
  | 0, acc, s => (acc, s)
  | n + 1, acc, s => if (rdInt s).2.err = 0 then rdL n (acc ++ [(rdInt s).1]) (rdInt s).2 else ([], (rdInt s).2)
def rdInts (s : RS) : List Int × RS := rdL (rdMany s).1.toNat [] (rdMany s).2
def getT (k : Int) (s : RS) : Tg × RS :=
  if k = 0 then (⟨0, (rdInt s).1, false, [], []⟩, (rdInt s).2)
  else if k = 1 then (⟨1, 0, (rdBool s).1, [], []⟩, (rdBool s).2)
  else if k = 2 ∨ k = 3 then (⟨k, 0, false, (rdBytes s).1, []⟩, (rdBytes s).2)
  else if k = 4 then (⟨4, 0, false, [], (rdInts s).1⟩, (rdInts s).2)
  else (zeroT k, s)

/-! ### After an error -/
theorem rdMany_err {s : RS} (h : ¬ s.err = 0) : rdMany s = (0, s) := by unfold rdMany; rw [rdInt_err h, if_pos h]
theorem rdBool_err {s : RS} (h : ¬ s.err = 0) : rdBool s = (false, s) := by unfold rdBool; rw [if_pos h]
theorem rdBytes_err {s : RS} (h : ¬ s.err = 0) : rdBytes s = ([], s) := by unfold rdBytes; rw [rdMany_err h, if_pos h]
theorem rdInts_err {s : RS} (h : ¬ s.err = 0) : rdInts s = ([], s) := by unfold rdInts; rw [rdMany_err h]; rfl
theorem getT_err (k : Int) {s : RS} (h : ¬ s.err = 0) : getT k s = (zeroT k, s) := by
  unfold getT zeroT
  rw [rdInt_err h, rdBool_err h, rdBytes_err h, rdInts_err h]
  split
  · simp_all
  · split
    · simp_all
    · split
      · rfl
      · split
        · simp_all
        · rfl

/-! ### What was written is read -/
theorem encI_ok (n : Nat) (h : n ≤ 1000000) : i64ok (n : Int) := by unfold i64ok; omega
theorem rdMany_enc {n : Nat} (hn : n ≤ 1000000) (r : List UInt8) (h : n ≤ r.length) : rdMany ⟨encI (n : Int) ++ r, 0⟩ = ((n : Int), ⟨r, 0⟩) := by
  unfold rdMany
  rw [rdInt_enc (encI_ok n hn)]
  simp only [not_true_eq_false, if_false]
  rw [if_neg (by omega), if_neg (by omega)]
theorem rdBytes_enc {d : List UInt8} (hd : d.length ≤ 1000000) (r : List UInt8) : rdBytes ⟨encD d ++ r, 0⟩ = (d, ⟨r, 0⟩) := by
  unfold rdBytes encD
  rw [List.append_assoc, rdMany_enc hd (d ++ r) (by simp)]
  simp
theorem encIs_cons (x : Int) (l : List Int) : encIs (x :: l) = encI x ++ encIs l := by simp [encIs]
theorem encIs_len (l : List Int) : l.length ≤ (encIs l).length := by
  induction l with
  | nil => simp
  | cons x l ih => rw [encIs_cons, List.length_cons, List.length_append]; have := encI_pos x; omega
theorem rdL_enc : ∀ (l acc : List Int) (r : List UInt8), (∀ x ∈ l, i64ok x) → rdL l.length acc ⟨encIs l ++ r, 0⟩ = (acc ++ l, ⟨r, 0⟩)
  | [], acc, r, _ => by simp [rdL, encIs]
  | x :: l, acc, r, h => by
    rw [List.length_cons, rdL, encIs_cons, List.append_assoc, rdInt_enc (h x (by simp)), if_pos rfl]
    have := rdL_enc l (acc ++ [x]) r (fun y hy => h y (by simp [hy]))
    rw [this]; simp
theorem rdInts_enc {l : List Int} (hl : l.length ≤ 1000000) (he : ∀ x ∈ l, i64ok x) (r : List UInt8) : rdInts ⟨encL l ++ r, 0⟩ = (l, ⟨r, 0⟩) := by
  unfold rdInts encL
  rw [List.append_assoc, rdMany_enc hl _ (by have := encIs_len l; simp; omega)]
  simp only [Int.toNat_natCast]
  rw [rdL_enc l [] r he]; simp
theorem rdBool_enc (b : Bool) (r : List UInt8) : rdBool ⟨encB b ++ r, 0⟩ = (b, ⟨r, 0⟩) := by cases b <;> simp [rdBool, encB]
theorem getT_put {t : Tg} (h : OkT t) (r : List UInt8) : getT t.k ⟨putT t ++ r, 0⟩ = (onlyT t, ⟨r, 0⟩) := by
  obtain ⟨k, n, b, d, l⟩ := t
  obtain ⟨h1, h2, h3, h4, h5, h6⟩ := h
  simp only at h1 h2 h3 h4 h5 h6
  have hk : k = 0 ∨ k = 1 ∨ k = 2 ∨ k = 3 ∨ k = 4 := by omega
  rcases hk with rfl | rfl | rfl | rfl | rfl
  · simp [getT, putT, onlyT, rdInt_enc h3]
  · simp [getT, putT, onlyT, rdBool_enc]
  · simp [getT, putT, onlyT, rdBytes_enc h4]
  · simp [getT, putT, onlyT, rdBytes_enc h4]
  · simp [getT, putT, onlyT, rdInts_enc h5 h6]

/-! ### What is read is what was written -/
theorem pair_of {α β : Type} {x : α × β} {a : α} {b : β} (h : x = (a, b)) : x.1 = a ∧ x.2 = b := by rw [h]; exact ⟨rfl, rfl⟩
theorem rs_of {s : RS} (h : s.err = 0) : s = ⟨s.rest, 0⟩ := by cases s; simp_all
theorem rdInt_of {l : List UInt8} (h : (rdInt ⟨l, 0⟩).2.err = 0) : l = encI (rdInt ⟨l, 0⟩).1 ++ (rdInt ⟨l, 0⟩).2.rest ∧ i64ok (rdInt ⟨l, 0⟩).1 :=
  rdInt_canon (r := (rdInt ⟨l, 0⟩).2.rest) (n := (rdInt ⟨l, 0⟩).1) (by rw [← rs_of h])
theorem rdMany_of {l : List UInt8} (h : (rdMany ⟨l, 0⟩).2.err = 0) : l = encI (rdMany ⟨l, 0⟩).1 ++ (rdMany ⟨l, 0⟩).2.rest ∧ 0 ≤ (rdMany ⟨l, 0⟩).1 ∧ (rdMany ⟨l, 0⟩).1 ≤ (rdMany ⟨l, 0⟩).2.rest.length := by
  unfold rdMany at h ⊢
  by_cases h1 : (rdInt ⟨l, 0⟩).2.err = 0
  · have := rdInt_of h1
    rw [if_neg (by simpa using h1)] at h ⊢
    by_cases h2 : (rdInt ⟨l, 0⟩).1 < 0
    · rw [if_pos h2] at h; simp at h
    · rw [if_neg h2] at h ⊢
      by_cases h3 : ((rdInt ⟨l, 0⟩).2.rest.length : Int) < (rdInt ⟨l, 0⟩).1
      · rw [if_pos h3] at h; simp at h
      · rw [if_neg h3] at h ⊢
        exact ⟨this.1, by omega, by omega⟩
  · rw [if_pos h1] at h; exact absurd h h1
theorem rdBytes_of {l : List UInt8} (h : (rdBytes ⟨l, 0⟩).2.err = 0) : l = encD (rdBytes ⟨l, 0⟩).1 ++ (rdBytes ⟨l, 0⟩).2.rest := by
  unfold rdBytes at h ⊢
  by_cases h1 : (rdMany ⟨l, 0⟩).2.err = 0
  · obtain ⟨h2, h3, h4⟩ := rdMany_of h1
    rw [if_neg (by simpa using h1)]
    generalize rdMany ⟨l, 0⟩ = m at *
    obtain ⟨n, s⟩ := m
    simp only at h1 h2 h3 h4 ⊢
    obtain ⟨n, rfl⟩ := Int.eq_ofNat_of_zero_le h3
    unfold encD
    rw [Int.toNat_natCast, List.length_take, Nat.min_eq_left (by omega), List.append_assoc, List.take_append_drop]
    exact h2
  · rw [if_pos h1] at h; exact absurd h h1
theorem rdL_of : ∀ (n : Nat) (acc : List Int) (l : List UInt8), (rdL n acc ⟨l, 0⟩).2.err = 0 → ∃ m : List Int, m.length = n ∧ (rdL n acc ⟨l, 0⟩).1 = acc ++ m ∧ l = encIs m ++ (rdL n acc ⟨l, 0⟩).2.rest ∧ ∀ x ∈ m, i64ok x
  | 0, acc, l, h => ⟨[], rfl, by simp [rdL], by simp [rdL, encIs], by simp⟩
  | n + 1, acc, l, h => by
    rw [rdL] at h ⊢
    by_cases h1 : (rdInt ⟨l, 0⟩).2.err = 0
    · rw [if_pos h1] at h ⊢
      obtain ⟨h2, h3⟩ := rdInt_of h1
      rw [rs_of h1] at h ⊢
      obtain ⟨m, e1, e2, e3, e4⟩ := rdL_of n _ _ h
      refine ⟨(rdInt ⟨l, 0⟩).1 :: m, by simp [e1], by rw [e2]; simp, ?_, ?_⟩
      · rw [encIs_cons, List.append_assoc, ← e3]; exact h2
      · intro x hx; rcases List.mem_cons.1 hx with rfl | hx
        · exact h3
        · exact e4 x hx
    · rw [if_neg h1] at h; exact absurd h h1
theorem rdL_bad : ∀ (n : Nat) (acc : List Int) (s : RS), s.err = 0 → ¬ (rdL n acc s).2.err = 0 → (rdL n acc s).1 = []
  | 0, acc, s, hs, h => absurd hs h
  | n + 1, acc, s, hs, h => by
    rw [rdL] at h ⊢
    split
    · rename_i h1; rw [if_pos h1] at h; exact rdL_bad n _ _ h1 h
    · rfl
theorem rdMany_bad {s : RS} (h : ¬ (rdMany s).2.err = 0) : (rdMany s).1 = 0 := by
  unfold rdMany at h ⊢
  split
  · rfl
  · rename_i h1
    rw [if_neg h1] at h
    split
    · rfl
    · rename_i h2
      rw [if_neg h2] at h
      split
      · rfl
      · rename_i h3
        rw [if_neg h3] at h
        exact absurd (Decidable.not_not.1 h1) h
theorem rdInts_of {l : List UInt8} (h : (rdInts ⟨l, 0⟩).2.err = 0) : l = encL (rdInts ⟨l, 0⟩).1 ++ (rdInts ⟨l, 0⟩).2.rest ∧ ∀ x ∈ (rdInts ⟨l, 0⟩).1, i64ok x := by
  unfold rdInts at h ⊢
  by_cases h1 : (rdMany ⟨l, 0⟩).2.err = 0
  · obtain ⟨h2, h3, h4⟩ := rdMany_of h1
    generalize rdMany ⟨l, 0⟩ = m at *
    obtain ⟨n, s⟩ := m
    simp only at h1 h2 h3 h4 h ⊢
    obtain ⟨n, rfl⟩ := Int.eq_ofNat_of_zero_le h3
    rw [Int.toNat_natCast] at h ⊢
    rw [rs_of h1] at h ⊢
    obtain ⟨m, e1, e2, e3, e4⟩ := rdL_of n _ _ h
    rw [e2, List.nil_append]
    refine ⟨?_, e4⟩
    unfold encL
    rw [e1, List.append_assoc, ← e3]
    exact h2
  · rw [rdMany_bad h1] at h; exact absurd h h1
theorem rdBool_of {l : List UInt8} (h : (rdBool ⟨l, 0⟩).2.err = 0) : l = encB (rdBool ⟨l, 0⟩).1 ++ (rdBool ⟨l, 0⟩).2.rest := by
  unfold rdBool at h ⊢
  simp only [not_true_eq_false, if_false] at h ⊢
  cases l with
  | nil => simp at h
  | cons b r =>
    simp only at h ⊢
    split
    · rename_i h1; rw [if_pos h1] at h; simp at h
    · rename_i h1
      simp only [encB]
      by_cases hb : b.toNat = 1
      · have : b = 1 := UInt8.toNat_inj.1 hb
        subst this; simp
      · have : b = 0 := UInt8.toNat_inj.1 (by simp; omega)
        subst this; simp
theorem getT_canon {k : Int} (h0 : 0 ≤ k) (h4 : k ≤ 4) {l : List UInt8} (h : (getT k ⟨l, 0⟩).2.err = 0) : (getT k ⟨l, 0⟩).1.k = k ∧ l = putT (getT k ⟨l, 0⟩).1 ++ (getT k ⟨l, 0⟩).2.rest := by
  have hk : k = 0 ∨ k = 1 ∨ k = 2 ∨ k = 3 ∨ k = 4 := by omega
  rcases hk with rfl | rfl | rfl | rfl | rfl
  · simp only [getT, if_true] at h ⊢; exact ⟨trivial, (rdInt_of h).1⟩
  · simp [getT, putT] at h ⊢; exact rdBool_of h
  · simp [getT, putT] at h ⊢; exact rdBytes_of h
  · simp [getT, putT] at h ⊢; exact rdBytes_of h
  · simp [getT, putT] at h ⊢; exact (rdInts_of h).1

/-! ### What is cut is too short -/
theorem rdMany_cut {n : Nat} (hn : n ≤ 1000000) {c : Nat} (hc : c < (encI (n : Int)).length) : rdMany ⟨(encI (n : Int)).take c, 0⟩ = (0, ⟨[], 11⟩) := by
  unfold rdMany; rw [rdInt_cut (encI_ok n hn) hc]; simp
theorem rdMany_less {n : Nat} (hn : n ≤ 1000000) (r : List UInt8) (h : r.length < n) : rdMany ⟨encI (n : Int) ++ r, 0⟩ = (0, ⟨[], 11⟩) := by
  unfold rdMany
  rw [rdInt_enc (encI_ok n hn)]
  simp only [not_true_eq_false, if_false]
  rw [if_neg (by omega), if_pos (by omega)]
theorem take_app {α : Type} (a b : List α) (c : Nat) : (c < a.length ∧ (a ++ b).take c = a.take c) ∨ (a.length ≤ c ∧ (a ++ b).take c = a ++ b.take (c - a.length)) := by
  by_cases h : c < a.length
  · exact .inl ⟨h, by rw [List.take_append_of_le_length (by omega)]⟩
  · refine .inr ⟨by omega, ?_⟩
    rw [List.take_append, List.take_of_length_le (by omega)]
theorem rdBytes_cut {d : List UInt8} (hd : d.length ≤ 1000000) {c : Nat} (hc : c < (encD d).length) : rdBytes ⟨(encD d).take c, 0⟩ = ([], ⟨[], 11⟩) := by
  have key : rdMany ⟨(encD d).take c, 0⟩ = (0, ⟨[], 11⟩) := by
    unfold encD at hc ⊢
    rcases take_app (encI (d.length : Int)) d c with ⟨h, e⟩ | ⟨h, e⟩
    · rw [e]; exact rdMany_cut hd h
    · rw [e]; exact rdMany_less hd _ (by rw [List.length_append] at hc; rw [List.length_take]; omega)
  unfold rdBytes; rw [key]; simp
theorem rdL_cut : ∀ (l acc : List Int) (c : Nat), (∀ x ∈ l, i64ok x) → c < (encIs l).length → rdL l.length acc ⟨(encIs l).take c, 0⟩ = ([], ⟨[], 11⟩)
  | [], acc, c, _, h => by simp [encIs] at h
  | x :: l, acc, c, h, hc => by
    rw [List.length_cons, rdL, encIs_cons]
    rw [encIs_cons, List.length_append] at hc
    rcases take_app (encI x) (encIs l) c with ⟨h1, e⟩ | ⟨h1, e⟩
    · rw [e, rdInt_cut (h x (by simp)) h1, if_neg (by simp)]
    · rw [e, rdInt_enc (h x (by simp)), if_pos rfl]
      exact rdL_cut l _ _ (fun y hy => h y (by simp [hy])) (by omega)
theorem rdInts_cut {l : List Int} (hl : l.length ≤ 1000000) (he : ∀ x ∈ l, i64ok x) {c : Nat} (hc : c < (encL l).length) : rdInts ⟨(encL l).take c, 0⟩ = ([], ⟨[], 11⟩) := by
  unfold encL at hc ⊢
  rcases take_app (encI (l.length : Int)) (encIs l) c with ⟨h, e⟩ | ⟨h, e⟩
  · rw [e]; unfold rdInts; rw [rdMany_cut hl h]; rfl
  · rw [e]
    by_cases h1 : ((encIs l).take (c - (encI (l.length : Int)).length)).length < l.length
    · unfold rdInts; rw [rdMany_less hl _ h1]; rfl
    · unfold rdInts
      rw [rdMany_enc hl _ (by omega)]
      simp only [Int.toNat_natCast]
      rw [List.length_append] at hc
      exact rdL_cut l [] _ he (by omega)
theorem rdBool_cut (b : Bool) {c : Nat} (hc : c < (encB b).length) : rdBool ⟨(encB b).take c, 0⟩ = (false, ⟨[], 11⟩) := by
  have : c = 0 := by simp [encB] at hc; exact hc
  subst this; simp [rdBool]
theorem getT_cut {t : Tg} (h : OkT t) {c : Nat} (hc : c < (putT t).length) : getT t.k ⟨(putT t).take c, 0⟩ = (zeroT t.k, ⟨[], 11⟩) := by
  obtain ⟨k, n, b, d, l⟩ := t
  obtain ⟨h1, h2, h3, h4, h5, h6⟩ := h
  simp only at h1 h2 h3 h4 h5 h6
  have hk : k = 0 ∨ k = 1 ∨ k = 2 ∨ k = 3 ∨ k = 4 := by omega
  rcases hk with rfl | rfl | rfl | rfl | rfl
  · simp [getT, putT, zeroT] at hc ⊢; rw [rdInt_cut h3 hc]; simp
  · simp [getT, putT, zeroT] at hc ⊢; rw [rdBool_cut b hc]; simp
  · simp [getT, putT, zeroT] at hc ⊢; rw [rdBytes_cut h4 hc]; simp
  · simp [getT, putT, zeroT] at hc ⊢; rw [rdBytes_cut h4 hc]; simp
  · simp [getT, putT, zeroT] at hc ⊢; rw [rdInts_cut h5 h6 hc]; simp
end Go.Proofs.Ytkkenfgpmoediaa

import Derived.Test.YtbellndcgagclaaMore
namespace Go.Proofs.Ytbellndcgagclaa

/-! ## The plain log -/
abbrev PE := Int × Int × List Int
def rightP (q : PE) : Bool := decide (1 ≤ q.1) && decide (q.1 ≤ 1099511627776) && decide (1 ≤ q.2.1) && decide (q.2.1 ≤ 3) && decide (q.2.2.length ≤ 8192)
section
variable {α : Type} (p : α → PE)
def lastT (l : List α) : Int := (l[l.length - 1]?).elim 0 fun e => (p e).1
def termT (l : List α) (n : Int) : Int := if n < 1 then 0 else (l[(n - 1).toNat]?).elim 0 fun e => (p e).1
def termB (l : List α) (n : Int) : Bool := decide (0 ≤ n) && decide (n ≤ l.length)
def addErr (l : List α) (e : α) : Int := if rightP (p e) = true then (if (p e).1 < lastT p l then 8 else 0) else 1
def addL (l : List α) (e : α) : List α := if addErr p l e = 0 then l ++ [e] else l
def addN (l : List α) (e : α) : Int := if addErr p l e = 0 then l.length + 1 else 0
def chain (t : Int) : List α → Bool
  | [] => true
  | e :: es => rightP (p e) && decide (t ≤ (p e).1) && chain (p e).1 es
/-- how many entries agree from index n on -/
def agree (l : List α) (n : Nat) : List α → Nat
  | [] => 0
  | e :: es => if (l[n]?).map p = some (p e) then agree l (n + 1) es + 1 else 0
def putBad (prev term : Int) (es : List α) : Bool := decide (prev < 0) || decide (term < 0) || !chain p term es
def putHas (l : List α) (prev term : Int) : Bool := termB l prev && decide (termT p l prev = term)
def putC (l : List α) (n : Nat) (es : List α) : List α := if agree p l n es < es.length then l.take (n + agree p l n es) ++ es.drop (agree p l n es) else l
def putL (l : List α) (prev term : Int) (es : List α) : List α := if putBad p prev term es = true then l else if putHas p l prev term = true then putC p l prev.toNat es else l
def putOk (l : List α) (prev term : Int) (es : List α) : Bool := !putBad p prev term es && putHas p l prev term
def putE (prev term : Int) (es : List α) : Int := if putBad p prev term es = true then 1 else 0
/-- the length of the common prefix -/
def comm : List α → List α → Nat
  | a :: l, b :: m => if p a = p b then comm l m + 1 else 0
  | _, _ => 0

/-! ### Seen through p -/
theorem chain_map : ∀ (es : List α) (t : Int), chain id t (es.map p) = chain p t es
  | [], _ => rfl
  | e :: es, t => by simp only [List.map_cons, chain, id, chain_map es]
theorem agree_map (l : List α) : ∀ (es : List α) (n : Nat), agree id (l.map p) n (es.map p) = agree p l n es
  | [], _ => rfl
  | e :: es, n => by
    simp only [List.map_cons, agree, id, List.getElem?_map, agree_map l es, Option.map_map]
    rfl
theorem termT_map (l : List α) (n : Int) : termT id (l.map p) n = termT p l n := by
  unfold termT
  split
  · rfl
  · rw [List.getElem?_map]
    cases l[(n - 1).toNat]? <;> rfl
theorem lastT_map (l : List α) : lastT id (l.map p) = lastT p l := by
  unfold lastT
  rw [List.getElem?_map, List.length_map]
  cases l[l.length - 1]? <;> rfl
theorem termB_map (l : List α) (n : Int) : termB (l.map p) n = termB l n := by simp [termB]
theorem addErr_map (l : List α) (e : α) : addErr id (l.map p) (p e) = addErr p l e := by simp only [addErr, lastT_map, id]
theorem addL_map (l : List α) (e : α) : (addL p l e).map p = addL id (l.map p) (p e) := by
  simp only [addL, addErr_map]
  split <;> simp
theorem addN_map (l : List α) (e : α) : addN id (l.map p) (p e) = addN p l e := by simp only [addN, addErr_map, List.length_map]
theorem putBad_map (prev term : Int) (es : List α) : putBad id prev term (es.map p) = putBad p prev term es := by simp only [putBad, chain_map]
theorem putHas_map (l : List α) (prev term : Int) : putHas id (l.map p) prev term = putHas p l prev term := by simp only [putHas, termB_map, termT_map]
theorem putC_map (l : List α) (n : Nat) (es : List α) : (putC p l n es).map p = putC id (l.map p) n (es.map p) := by
  simp only [putC, agree_map, List.length_map]
  split <;> simp
theorem putL_map (l : List α) (prev term : Int) (es : List α) : (putL p l prev term es).map p = putL id (l.map p) prev term (es.map p) := by
  simp only [putL, putBad_map, putHas_map]
  split
  · rfl
  · split
    · rw [putC_map]
    · rfl
theorem putOk_map (l : List α) (prev term : Int) (es : List α) : putOk id (l.map p) prev term (es.map p) = putOk p l prev term es := by simp only [putOk, putBad_map, putHas_map]
theorem putE_map (prev term : Int) (es : List α) : putE id prev term (es.map p) = putE p prev term es := by simp only [putE, putBad_map]
theorem comm_map : ∀ (l m : List α), comm id (l.map p) (m.map p) = comm p l m
  | a :: l, b :: m => by simp only [List.map_cons, comm, id, comm_map l m]
  | [], _ => by simp [comm]
  | _ :: _, [] => by simp [comm]

/-! ### One step of the loops -/
/-- the term that the k-th entry must reach -/
def floorT (t : Int) (es : List α) : Nat → Int
  | 0 => t
  | k + 1 => (es[k]?).elim t fun e => (p e).1
theorem drop_cons {l : List α} {k : Nat} {a : α} (h : l[k]? = some a) : l.drop k = a :: l.drop (k + 1) := by
  obtain ⟨hk, rfl⟩ := List.getElem?_eq_some_iff.1 h
  exact List.drop_eq_getElem_cons hk
theorem chain_step {t : Int} {es : List α} {k : Nat} {e : α} (h : es[k]? = some e) : chain p t (es.drop k) = (rightP (p e) && decide (t ≤ (p e).1) && chain p (p e).1 (es.drop (k + 1))) := by
  rw [drop_cons h, chain]
theorem floor_step {t : Int} {es : List α} {k : Nat} {e : α} (h : es[k]? = some e) : floorT p t es (k + 1) = (p e).1 := by
  simp only [floorT, h, Option.elim]
theorem agree_step {l es : List α} {n k : Nat} {e : α} (h : es[k]? = some e) : agree p l n (es.drop k) = if (l[n]?).map p = some (p e) then agree p l (n + 1) (es.drop (k + 1)) + 1 else 0 := by
  rw [drop_cons h, agree]
theorem agree_le (l : List α) : ∀ (es : List α) (n : Nat), agree p l n es ≤ es.length
  | [], _ => Nat.le_refl _
  | e :: es, n => by
    simp only [agree]
    split
    · have := agree_le l es (n + 1); simp; omega
    · omega
/-- so far all agree -/
def Agree (l es : List α) (n k : Nat) : Prop := agree p l n es = k + agree p l (n + k) (es.drop k)
theorem Agree.zero (l es : List α) (n : Nat) : Agree p l es n 0 := by simp [Agree]
theorem Agree.succ {l es : List α} {n k : Nat} {e a : α} (h : Agree p l es n k) (he : es[k]? = some e) (ha : l[n + k]? = some a) (hp : p a = p e) : Agree p l es n (k + 1) := by
  unfold Agree at h ⊢
  rw [h, agree_step p he, if_pos (by rw [ha]; simp [hp]), Nat.add_assoc n k 1]
  omega
theorem Agree.stop {l es : List α} {n k : Nat} {e : α} (h : Agree p l es n k) (he : es[k]? = some e) (ha : ¬ (l[n + k]?).map p = some (p e)) : agree p l n es = k := by
  rw [h, agree_step p he, if_neg ha]; rfl
theorem Agree.all {l es : List α} {n : Nat} (h : Agree p l es n es.length) : agree p l n es = es.length := by
  rw [h]; simp [agree]
end
end Go.Proofs.Ytbellndcgagclaa

import Derived.Test.YtbellndcgagclaaPlain
namespace Go.Proofs.Ytbellndcgagclaa

/-! ## The plain laws of Put -/
/-- valid, in order from term t on -/
theorem chain_append : ∀ (a b : List PE) (t : Int), chain id t (a ++ b) = (chain id t a && chain id (if a = [] then t else lastT id a) b)
  | [], b, t => by simp [chain]
  | [x], b, t => by simp [chain, lastT]
  | x :: y :: a, b, t => by
    have h := chain_append (y :: a) b x.1
    have e : lastT id (x :: y :: a) = lastT id (y :: a) := by simp [lastT]
    simp only [List.cons_append, chain, id] at h ⊢
    rw [h, e]
    simp [Bool.and_assoc]
theorem chain_mono : ∀ {a : List PE} {t s : Int}, t ≤ s → chain id s a = true → chain id t a = true
  | [], _, _, _, _ => rfl
  | x :: a, t, s, h, hc => by
    simp only [chain, id, Bool.and_eq_true, decide_eq_true_eq] at hc ⊢
    exact ⟨⟨hc.1.1, by omega⟩, hc.2⟩
theorem chain_take {a : List PE} {t : Int} (h : chain id t a = true) (k : Nat) : chain id t (a.take k) = true := by
  have e : a = a.take k ++ a.drop k := (List.take_append_drop k a).symm
  rw [e, chain_append] at h
  simp only [Bool.and_eq_true] at h
  exact h.1
theorem chain_last : ∀ {a : List PE} {t : Int}, chain id t a = true → a ≠ [] → t ≤ lastT id a
  | [x], t, h, _ => by
    simp [chain] at h
    simp [lastT]; omega
  | x :: y :: a, t, h, _ => by
    have e : lastT id (x :: y :: a) = lastT id (y :: a) := by simp [lastT]
    simp only [chain, id, Bool.and_eq_true, decide_eq_true_eq] at h
    have h2 := chain_last (a := y :: a) (t := x.1) (by simp only [chain, id, Bool.and_eq_true, decide_eq_true_eq]; exact h.2) (by simp)
    rw [e]
    omega
  | [], _, _, h => absurd rfl h
theorem lastT_take {q : List PE} {n : Nat} (h0 : 0 < n) (hn : n ≤ q.length) : lastT id (q.take n) = termT id q n := by
  unfold lastT termT
  rw [if_neg (by omega), List.length_take, Nat.min_eq_left hn, show ((n : Int) - 1).toNat = n - 1 by omega, List.getElem?_take_of_lt (by omega)]
theorem addL_chain {q : List PE} {e : PE} (h : chain id 0 q = true) : chain id 0 (addL id q e) = true := by
  unfold addL
  split
  · rename_i h0
    rw [chain_append, h]
    unfold addErr at h0
    split at h0
    · rename_i hr
      split at h0
      · simp at h0
      · rename_i ht
        simp only [chain, id, Bool.true_and, Bool.and_true, Bool.and_eq_true, decide_eq_true_eq] at hr ht ⊢
        refine ⟨hr, ?_⟩
        split
        · have := hr
          simp only [rightP, Bool.and_eq_true, decide_eq_true_eq] at this
          omega
        · omega
    · simp at h0
  · exact h
/-- how the agreeing entries lie -/
theorem agree_get (q : List PE) : ∀ (es : List PE) (n k : Nat), k < agree id q n es → q[n + k]? = es[k]?
  | [], _, _, h => by simp [agree] at h
  | e :: es, n, k, h => by
    simp only [agree, id, Option.map_id'] at h
    split at h
    · rename_i h0
      cases k with
      | zero => simpa using h0
      | succ k =>
        have := agree_get q es (n + 1) k (by omega)
        rw [List.getElem?_cons_succ, ← this]
        congr 1
        omega
    · omega
theorem agree_prefix {q es : List PE} {n : Nat} (hn : n ≤ q.length) : q.take (n + agree id q n es) = q.take n ++ es.take (agree id q n es) := by
  have hle := agree_le id q es n
  apply List.ext_getElem?
  intro k
  by_cases h1 : k < n
  · rw [List.getElem?_take_of_lt (by omega), List.getElem?_append_left (by simp; omega), List.getElem?_take_of_lt h1]
  · obtain ⟨j, rfl⟩ : ∃ j, k = n + j := ⟨k - n, by omega⟩
    rw [List.getElem?_append_right (by simp; omega), List.length_take, Nat.min_eq_left hn, Nat.add_sub_cancel_left]
    by_cases h2 : j < agree id q n es
    · rw [List.getElem?_take_of_lt (by omega), List.getElem?_take_of_lt h2]
      exact agree_get q es n j h2
    · rw [List.getElem?_eq_none (by simp; omega), List.getElem?_eq_none (by simp; omega)]
/-- after Put the entries stand behind index n; what follows them is old -/
theorem putC_eq {q es : List PE} {n : Nat} (hn : n ≤ q.length) : ∃ tl, putC id q n es = q.take n ++ es ++ tl ∧ (tl = [] ∨ (tl = q.drop (n + es.length) ∧ agree id q n es = es.length)) := by
  have hle := agree_le id q es n
  unfold putC
  split
  · refine ⟨[], ?_, .inl rfl⟩
    rw [agree_prefix hn, List.append_assoc, List.take_append_drop, List.append_nil]
  · have e : agree id q n es = es.length := by omega
    refine ⟨q.drop (n + es.length), ?_, .inr ⟨rfl, e⟩⟩
    have h := agree_prefix (es := es) hn
    rw [e, List.take_of_length_le (Nat.le_refl _)] at h
    rw [← h, List.take_append_drop]
theorem agree_self : ∀ (es a tl : List PE), agree id (a ++ es ++ tl) a.length es = es.length
  | [], a, tl => by simp [agree]
  | e :: es, a, tl => by
    have h := agree_self es (a ++ [e]) tl
    have e1 : a ++ [e] ++ es ++ tl = a ++ (e :: es) ++ tl := by simp
    rw [e1] at h
    have e2 : (a ++ [e]).length = a.length + 1 := by simp
    rw [e2] at h
    simp only [agree, id]
    rw [if_pos (by simp), h]
    simp
theorem putOk_parts {q : List PE} {prev term : Int} {es : List PE} (h : putOk id q prev term es = true) : 0 ≤ prev ∧ 0 ≤ term ∧ chain id term es = true ∧ prev.toNat ≤ q.length ∧ termT id q prev = term ∧ putBad id prev term es = false ∧ putL id q prev term es = putC id q prev.toNat es := by
  simp only [putOk, Bool.and_eq_true, Bool.not_eq_true', putHas, decide_eq_true_eq] at h
  obtain ⟨hb, hB, hT⟩ := h
  have hb' := hb
  simp only [putBad, Bool.or_eq_false_iff, decide_eq_false_iff_not, Bool.not_eq_false'] at hb'
  simp only [termB, Bool.and_eq_true, decide_eq_true_eq] at hB
  refine ⟨by omega, by omega, hb'.2, by omega, hT, hb, ?_⟩
  unfold putL
  rw [hb, if_neg (by simp), if_pos (by simp [putHas, termB, hT]; omega)]
theorem putL_no {q : List PE} {prev term : Int} {es : List PE} (h : putOk id q prev term es = false) : putL id q prev term es = q := by
  unfold putL
  unfold putOk at h
  split
  · rfl
  · rename_i hb
    have hb' : putBad id prev term es = false := by simpa using hb
    rw [hb'] at h
    simp at h
    rw [h]; rfl
theorem putE_ok {prev term : Int} {es : List PE} (h : putBad id prev term es = false) : putE id prev term es = 0 := by simp [putE, h]
theorem putL_form {q : List PE} {prev term : Int} {es : List PE} (h : putOk id q prev term es = true) : ∃ tl, putL id q prev term es = q.take prev.toNat ++ es ++ tl ∧ (tl = [] ∨ putL id q prev term es = q) := by
  obtain ⟨h1, h2, h3, h4, h5, h6, h7⟩ := putOk_parts h
  obtain ⟨tl, e, ht⟩ := putC_eq (es := es) h4
  rw [h7]
  refine ⟨tl, e, ?_⟩
  rcases ht with ht | ⟨_, ht⟩
  · exact .inl ht
  · right
    unfold putC
    rw [if_neg (by omega)]
theorem putL_chain {q : List PE} (h : chain id 0 q = true) (prev term : Int) (es : List PE) : chain id 0 (putL id q prev term es) = true := by
  cases hok : putOk id q prev term es with
  | false => rw [putL_no hok]; exact h
  | true =>
    obtain ⟨h1, h2, h3, h4, h5, h6, h7⟩ := putOk_parts hok
    obtain ⟨tl, e, ht⟩ := putL_form hok
    rcases ht with rfl | ht
    · rw [e, List.append_nil, chain_append, chain_take h, Bool.true_and]
      have hz : (if q.take prev.toNat = [] then (0 : Int) else lastT id (q.take prev.toNat)) = term := by
        by_cases h0 : prev.toNat = 0
        · rw [h0]
          simp
          rw [← h5]
          unfold termT
          rw [if_pos (by omega)]
        · have hne : ¬ q.take prev.toNat = [] := by
            intro e
            have := congrArg List.length e
            rw [List.length_take, List.length_nil] at this
            omega
          rw [if_neg hne, lastT_take (by omega) h4, ← h5]
          congr 1
          omega
      rw [hz]; exact h3
    · rw [ht]; exact h
theorem putL_take {q : List PE} {prev term : Int} {es : List PE} (h : putOk id q prev term es = true) : (putL id q prev term es).take prev.toNat = q.take prev.toNat ∧ ((putL id q prev term es).drop prev.toNat).take es.length = es ∧ prev.toNat ≤ (putL id q prev term es).length := by
  obtain ⟨h1, h2, h3, h4, h5, h6, h7⟩ := putOk_parts h
  obtain ⟨tl, e, _⟩ := putL_form h
  have hl : (q.take prev.toNat).length = prev.toNat := by simp; omega
  rw [e]
  refine ⟨?_, ?_, by simp; omega⟩
  · rw [List.append_assoc, List.take_append_of_le_length (by omega), List.take_take, Nat.min_self]
  · rw [List.append_assoc, List.drop_append_of_le_length (by omega), List.drop_of_length_le (by omega), List.nil_append, List.take_append_of_le_length (Nat.le_refl _), List.take_length]
theorem termT_take {q q2 : List PE} {n : Int} (h : q.take n.toNat = q2.take n.toNat) : termT id q n = termT id q2 n := by
  unfold termT
  split
  · rfl
  · have h1 := congrArg (fun z : List PE => z[(n - 1).toNat]?) h
    simp only [List.getElem?_take] at h1
    rw [if_pos (by omega), if_pos (by omega)] at h1
    rw [h1]
theorem putL_again {q : List PE} {prev term : Int} {es : List PE} (h : putOk id q prev term es = true) : putOk id (putL id q prev term es) prev term es = true ∧ putL id (putL id q prev term es) prev term es = putL id q prev term es := by
  obtain ⟨h1, h2, h3, h4, h5, h6, h7⟩ := putOk_parts h
  obtain ⟨t1, t2, t3⟩ := putL_take h
  have hok : putOk id (putL id q prev term es) prev term es = true := by
    unfold putOk putHas
    rw [h6, termT_take t1, h5]
    simp [termB]
    omega
  refine ⟨hok, ?_⟩
  obtain ⟨_, _, _, _, _, _, e7⟩ := putOk_parts hok
  rw [e7]
  obtain ⟨tl, e, _⟩ := putL_form h
  have ha : agree id (putL id q prev term es) prev.toNat es = es.length := by
    have hl : (q.take prev.toNat).length = prev.toNat := by simp; omega
    have := agree_self es (q.take prev.toNat) tl
    rwa [← e, hl] at this
  unfold putC
  rw [if_neg (by omega)]
theorem comm_take : ∀ (a b : List PE), a.take (comm id a b) = b.take (comm id a b)
  | [], [] => rfl
  | [], _ :: _ => rfl
  | _ :: _, [] => rfl
  | x :: a, y :: b => by
    simp only [comm, id]
    split
    · rename_i h; subst h; simp [comm_take a b]
    · simp
theorem comm_le : ∀ (a b : List PE), comm id a b ≤ a.length ∧ comm id a b ≤ b.length
  | [], [] => by simp [comm]
  | [], _ :: _ => by simp [comm]
  | _ :: _, [] => by simp [comm]
  | x :: a, y :: b => by
    have := comm_le a b
    simp only [comm, id]
    split
    · simp; omega
    · simp
theorem comm_prefix : ∀ (p a b : List PE), p.length ≤ comm id (p ++ a) (p ++ b)
  | [], _, _ => by simp
  | x :: p, a, b => by
    have := comm_prefix p a b
    simp only [List.cons_append, comm, id, if_true, List.length_cons]
    omega
/-- the law Matching, in plain lists -/
theorem matching {q q2 : List PE} {prev term : Int} {es : List PE} (h : prev ≤ comm id q q2) : putOk id q prev term es = putOk id q2 prev term es ∧ (putOk id q prev term es = true → prev + es.length ≤ comm id (putL id q prev term es) (putL id q2 prev term es)) := by
  have hle := comm_le q q2
  have ht : q.take prev.toNat = q2.take prev.toNat := by
    have := congrArg (List.take prev.toNat) (comm_take q q2)
    rw [List.take_take, List.take_take, Nat.min_eq_left (by omega)] at this
    exact this
  have he : putOk id q prev term es = putOk id q2 prev term es := by
    unfold putOk putHas
    rw [termT_take ht]
    have : termB q prev = termB q2 prev := by
      unfold termB
      have e1 : decide (prev ≤ (q.length : Int)) = true := by simp; omega
      have e2 : decide (prev ≤ (q2.length : Int)) = true := by simp; omega
      rw [e1, e2]
    rw [this]
  refine ⟨he, fun hok => ?_⟩
  obtain ⟨h1, h2, h3, h4, h5, h6, h7⟩ := putOk_parts hok
  obtain ⟨tl, e, _⟩ := putL_form hok
  obtain ⟨tl2, e2, _⟩ := putL_form (he ▸ hok)
  rw [e, e2, ← ht]
  have := comm_prefix (q.take prev.toNat ++ es) tl tl2
  rw [List.length_append, List.length_take] at this
  omega
end Go.Proofs.Ytbellndcgagclaa

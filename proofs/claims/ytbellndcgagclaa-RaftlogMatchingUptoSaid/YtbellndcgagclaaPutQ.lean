import Derived.Test.YtbellndcgagclaaLookQ
import Derived.Test.YtbellndcgagclaaPlainPut
namespace Go.Proofs.Ytbellndcgagclaa
open Go.RowKit

theorem E22 : Elem Try.prog 22 33 4 48 (.agg #[.bool false, .int .i64 0, .int .i64 0, .slice none 0 0]) := ⟨Try.underlying22, by kernel_rfl, rfl, by decide⟩
theorem actFlat_one (l : List LAct) : ∀ u ∈ actFlat l, u.oneCell' = true := by
  intro u hu
  simp only [actFlat, List.mem_flatMap, LAct.cells] at hu
  obtain ⟨e, _, hu⟩ := hu
  simp at hu
  rcases hu with rfl | rfl | rfl | rfl <;> rfl
/-- a log, its row named -/
def LogR (w : World) (B0 lb : Nat) (r : Option Nat) (q : List PE) : Prop := ∃ A c l, IsLog w (· < B0) lb r A c l ∧ l.map En.pe = q
theorem LogR.log {w : World} {B0 lb : Nat} {r : Option Nat} {q : List PE} (h : LogR w B0 lb r q) : LogAt w (· < B0) lb q := by
  obtain ⟨A, c, l, h1, h2⟩ := h; exact ⟨r, A, c, l, h1, h2⟩
theorem LogR.same {w w' : World} {B0 lb : Nat} {r : Option Nat} {q : List PE} (h : LogR w B0 lb r q) (hk : Same w w') : LogR w' B0 lb r q := by
  obtain ⟨A, c, l, h1, h2⟩ := h; exact ⟨A, c, l, h1.same hk, h2⟩
theorem LogR.lt {w : World} {B0 lb : Nat} {r : Option Nat} {q : List PE} (h : LogR w B0 lb r q) : ∀ i, (i = lb ∨ some i = r) → i < w.heap.size ∧ B0 ≤ i := by
  obtain ⟨A, c, l, h1, _⟩ := h
  intro i hi
  rcases hi with rfl | hi
  · exact ⟨h1.top.lt, by have := h1.lbv; simpa using this⟩
  · exact ⟨h1.row.lt i (by rw [h1.ownBlock]; exact hi.symm), by have := (h1.rv i hi.symm).1; simpa using this⟩
def AfterPost (w : World) (B0 lb : Nat) (r : Option Nat) (q : List PE) (v : Value) (e : Ending) (w' : World) : Prop :=
  e = .returned v ∧ ∃ r', LogR w' B0 lb r' q ∧ Keep (fun i => i = lb ∨ some i = r) w w' ∧ (∀ g, r' = some g → r = some g ∨ w.heap.size ≤ g)
theorem after_r (w : World) (B0 lb : Nat) (r : Option Nat) (hB : B0 ≤ w.heap.size) (q : List PE) (h : LogR w B0 lb r q) (hn : q.length ≤ 1000) (es : List En) (m z : Nat) (Z : Option Addr) (h2 : Ls w (B0 ≤ ·) Z m z es) (hm : m ≤ 1000) (prev term : Int) :
    Calls Try.prog 16 #[.pointer (some ⟨lb, 0, none⟩), .int .i64 prev, .int .i64 term, .slice Z m z] w
      (AfterPost w B0 lb r (putL id q prev term (es.map En.pe)) (.tuple #[.bool (putOk id q prev term (es.map En.pe)), .int .i64 (putE id prev term (es.map En.pe))])) := by
  have hlt := h.lt
  obtain ⟨A, c, l, h1, rfl⟩ := h
  refine (appendAfter_any w (· < B0) (fun i hi => Nat.lt_of_lt_of_le hi hB) lb r A c l es l.length m z Z h1 rfl (h2.wide (fun i _ hs => (hlt i hs).2)) (by simpa using hn) hm prev term).mono fun e w' hP => ?_
  unfold PutLog at hP
  rw [putL_map] at hP
  rw [putOk_map, putE_map]
  obtain ⟨r', A', c', l', he, h3, h4, h5, h6⟩ := hP
  exact ⟨he, r', ⟨A', c', l', h3, h4⟩, h5, h6⟩
theorem Both.open_ {w : World} {B0 lb : Nat} {X : Option Addr} {n c : Nat} {q : List PE} (h : Both w B0 lb X n c q) : ∃ r, LogR w B0 lb r q ∧ LsQ w (fun i => i = lb ∨ some i = r) X n c q := by
  obtain ⟨r, A, d, l, m, h1, h2, h3, h4⟩ := h
  exact ⟨r, ⟨A, d, l, h1, h3⟩, m, h2, h4⟩
theorem LsQ.keep {S Av : Nat → Prop} {w w' : World} {X : Option Addr} {n c : Nat} {q : List PE} (h : LsQ w Av X n c q) (hk : Keep S w w') (hS : ∀ i, i < w.heap.size → S i → Av i) : LsQ w' Av X n c q := by
  obtain ⟨m, h1, h2⟩ := h; exact ⟨m, h1.keep hk hS, h2⟩
theorem LsQ.wide {Av Av' : Nat → Prop} {w : World} {X : Option Addr} {n c : Nat} {q : List PE} (h : LsQ w Av X n c q) (hS : ∀ i, i < w.heap.size → Av' i → Av i) : LsQ w Av' X n c q := by
  obtain ⟨m, h1, h2⟩ := h; exact ⟨m, h1.wide hS, h2⟩
theorem LsQ.take {w : World} {Av : Nat → Prop} {X : Option Addr} {n c : Nat} {q : List PE} (h : LsQ w Av X n c q) (k : Nat) (hk : k ≤ n) : LsQ w Av X k c (q.take k) := by
  obtain ⟨m, h1, rfl⟩ := h; exact ⟨m.take k, h1.take k hk, by rw [List.map_take]⟩
theorem LsQ.cap {w : World} {Av : Nat → Prop} {X : Option Addr} {n c : Nat} {q : List PE} (h : LsQ w Av X n c q) : n ≤ c := by
  obtain ⟨m, h1, _⟩ := h; exact h1.cap
theorem rest_at (w : World) (B0 lb : Nat) (r : Option Nat) (Bv : Nat → Prop) (X : Option Addr) (n c : Nat) (q : List PE) (h : LogR w B0 lb r q) (h2 : LsQ w Bv X n c q) (hn : q.length ≤ 1000) : Calls Try.prog 19 #[.pointer (some ⟨lb, 0, none⟩), .slice X n c] w (PlainPost w true) := by
  obtain ⟨A, d, l, h1, rfl⟩ := h
  obtain ⟨m, h3, h4⟩ := h2
  exact agrees_any w _ _ lb r A d l X n c m h1 h3 h4.symm (by simpa using hn)
/-- the operations and one more, as they lie in memory -/
theorem As.snoc {w w5 : World} {base : Nat} {X : Option Addr} {n c : Nat} {l : List LAct} {a : LAct} (h : As w (fun _ => False) X n c l) (ha : Ls w (fun _ => False) a.X a.n a.c a.es) {A2 : Option Addr} {d2 : Nat} (hk : Same w w5)
    (ho : Own w5 base 33 4 (.slice A2 (n + 1) d2) (n + 1) (actFlat l ++ a.cells)) : As w5 (fun _ => False) A2 (n + 1) d2 (l ++ [a]) := by
  refine ⟨by simp [h.len], ?_, ?_, ho.cap⟩
  · have := ho.sl (Av := fun _ => False) (fun _ _ f => f)
    simpa [actFlat] using this
  · intro x hx
    rcases List.mem_append.1 hx with hx | hx
    · exact (h.el x hx).same hk
    · simp at hx; subst hx; exact ha.same hk
theorem smallA_snoc {l : List LAct} {a : LAct} (h : smallA (l ++ [a]) = true) : l.length ≤ 40 ∧ (ents l).length + a.es.length ≤ 120 := by
  obtain ⟨h1, h2⟩ := smallA_ok h
  have e : ents (l ++ [a]) = ents l ++ a.es := by simp [ents]
  rw [e, List.length_append] at h2
  rw [List.length_append, List.length_cons, List.length_nil] at h1
  omega
theorem chain_floor {q : List PE} (h : chain id 0 q = true) : ∀ (k : Nat), k ≤ q.length → chain id (floorT id 0 q k) (q.drop k) = true
  | 0, _ => by simpa [floorT] using h
  | k + 1, hk => by
    obtain ⟨e, he⟩ := get_some (l := q) (k := k) (by omega)
    have h1 := chain_floor h k (by omega)
    rw [chain_step id he] at h1
    simp only [Bool.and_eq_true] at h1
    rw [floor_step id he]
    exact h1.2
theorem floor_le {q : List PE} (h : chain id 0 q = true) {k : Nat} {e : PE} (he : q[k]? = some e) : floorT id 0 q k ≤ e.1 := by
  have hk := (List.getElem?_eq_some_iff.1 he).1
  have h1 := chain_floor h k (by omega)
  rw [chain_step id he] at h1
  simp only [Bool.and_eq_true, decide_eq_true_eq, id] at h1
  exact h1.1.2
theorem actQ_chain {q : List PE} (h : chain id 0 q = true) (a : LAct) : chain id 0 (actQ q a) = true := by
  unfold actQ
  split
  · exact putL_chain h _ _ _
  · unfold addAll
    generalize a.es.map En.pe = es
    induction es generalizing q with
    | nil => exact h
    | cons e es ih => exact ih (addL_chain h)
theorem playQ_chain (l : List LAct) : chain id 0 (playQ l) = true := by
  unfold playQ
  have : ∀ (l : List LAct) (q : List PE), chain id 0 q = true → chain id 0 (l.foldl actQ q) = true := by
    intro l
    induction l with
    | nil => intro q h; exact h
    | cons a l ih => intro q h; exact ih _ (actQ_chain h a)
  exact this l [] rfl
theorem fromQ_all {q : List PE} (h : q.length ≤ 1000) : fromQ q 1 1000 = q := by
  unfold fromQ
  rw [if_neg (by omega), show (max (1 : Int) 1 - 1).toNat = 0 by rfl, List.drop_zero, List.take_of_length_le (by omega)]
theorem fromQ_put {q' : List PE} {prev : Int} {es : List PE} (h0 : 0 ≤ prev) (h : (q'.drop prev.toNat).take es.length = es) : fromQ q' (prev + 1) es.length = es := by
  unfold fromQ
  split
  · have : es.length = 0 := by omega
    exact (List.eq_nil_of_length_eq_zero this).symm
  · rw [show (max (prev + 1) 1 - 1).toNat = prev.toNat by omega, show ((es.length : Int)).toNat = es.length by omega, h]
end Go.Proofs.Ytbellndcgagclaa

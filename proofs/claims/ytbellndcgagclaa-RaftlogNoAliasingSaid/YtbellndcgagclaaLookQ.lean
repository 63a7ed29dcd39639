import Derived.Test.YtbellndcgagclaaModelW
namespace Go.Proofs.Ytbellndcgagclaa
open Go.RowKit

/-! ## The law Lookups -/
def getQ (q : List PE) (i : Int) : PE := if 1 ≤ i then (q[(i - 1).toNat]?).getD (0, 0, []) else (0, 0, [])
theorem getE_q (l : List En) (i : Int) : getE l i = getQ (l.map En.pe) i := by
  unfold getE getQ
  split
  · rw [List.getElem?_map]; cases l[(i - 1).toNat]? <;> rfl
  · rfl
def getBQ (q : List PE) (n : Int) : Bool := decide (1 ≤ n) && decide (n ≤ q.length)
def fromQ (q : List PE) (i most : Int) : List PE := if most < 1 then [] else (q.drop (max i 1 - 1).toNat).take most.toNat
theorem fromN_q (l : List En) (i most : Int) : (fromN l i most).map En.pe = fromQ (l.map En.pe) i most := by
  unfold fromN fromQ
  split
  · rfl
  · rw [List.map_take, List.map_drop]
theorem get_at (w : World) (Av : Nat → Prop) (lb : Nat) (q : List PE) (h : LogAt w Av lb q) (hn : q.length ≤ 1000) (i : Int) : Calls Try.prog 22 #[.pointer (some ⟨lb, 0, none⟩), .int .i64 i] w (GetPost w (getQ q i) (getBQ q i)) := by
  obtain ⟨r, A, c, l, h1, rfl⟩ := h
  have := get_any w Av lb r A c l h1 (by simpa using hn) i
  rw [getE_q] at this
  simp only [getB] at this
  simp only [getBQ, List.length_map]
  exact this
theorem term_at (w : World) (Av : Nat → Prop) (lb : Nat) (q : List PE) (h : LogAt w Av lb q) (hn : q.length ≤ 1000) (i : Int) : Calls Try.prog 23 #[.pointer (some ⟨lb, 0, none⟩), .int .i64 i] w (TermPost w (termT id q i) (termB q i)) := by
  obtain ⟨r, A, c, l, h1, rfl⟩ := h
  have := term_any w Av lb r A c l h1 (by simpa using hn) i
  rwa [termT_map, termB_map]
theorem rterm_at (w : World) (Av : Nat → Prop) (X : Option Addr) (n c : Nat) (q : List PE) (h : LsQ w Av X n c q) (hn : n ≤ 1000) (i : Int) : Calls Try.prog 24 #[.slice X n c, .int .i64 i] w (TermPost w (termT id q i) (termB q i)) := by
  obtain ⟨l, h1, rfl⟩ := h
  have := rterm_any w Av X n c l h1 hn i
  rwa [termT_map, termB_map]
theorem slice_at (w : World) (Av : Nat → Prop) (lb : Nat) (q : List PE) (h : LogAt w Av lb q) (hn : q.length ≤ 1000) (i most : Int) : Calls Try.prog 20 #[.pointer (some ⟨lb, 0, none⟩), .int .i64 i, .int .i64 most] w (SlicePost w (fromQ q i most)) := by
  obtain ⟨r, A, c, l, h1, rfl⟩ := h
  have := slice_any w Av lb r A c l h1 (by simpa using hn) i most
  rwa [fromN_q] at this
def FromPostQ (w : World) (Av : Nat → Prop) (q : List PE) (e : Ending) (w' : World) : Prop := ∃ Y n d, e = .returned (.slice Y n d) ∧ LsQ w' Av Y n d q ∧ Same w w'
theorem from_at (w : World) (X : Option Addr) (n c : Nat) (q : List PE) (h : LsQ w (fun _ => False) X n c q) (hn : n ≤ 1000) (i most : Int) : Calls Try.prog 26 #[.slice X n c, .int .i64 i, .int .i64 most] w (FromPostQ w (fun _ => False) (fromQ q i most)) := by
  obtain ⟨l, h1, rfl⟩ := h
  refine (from_any w (fun _ => False) (fun _ f => f.elim) X n c l h1 hn i most).mono fun e w' ⟨Y, m, d, he, hl, hk⟩ => ?_
  exact ⟨Y, m, d, he, ⟨_, hl, fromN_q l i most⟩, hk⟩
theorem newer_at (w : World) (Av : Nat → Prop) (X : Option Addr) (m c : Nat) (q : List PE) (h : LsQ w Av X m c q) (hn : m ≤ 1000) (n t : Int) : Calls Try.prog 28 #[.slice X m c, .int .i64 n, .int .i64 t] w (UpPostQ w q n t) := by
  obtain ⟨l, h1, rfl⟩ := h
  have := newer_any w Av X m c l h1 hn n t
  unfold UpPost at this
  unfold UpPostQ
  rw [lastT_map, List.length_map]
  exact this
theorem same_at (w : World) (Av Bv : Nat → Prop) (X Y : Option Addr) (n c m d : Nat) (q q2 : List PE) (h : LsQ w Av X n c q) (h2 : LsQ w Bv Y m d q2) (hn : n ≤ 1000) (hm : m ≤ 1000) : Calls Try.prog 21 #[.slice X n c, .slice Y m d] w (PlainPost w (decide (q = q2))) := by
  obtain ⟨l, h1, rfl⟩ := h
  obtain ⟨l2, h3, rfl⟩ := h2
  exact same_any w Av Bv X Y n c m d l l2 h1 h3 hn hm
theorem LsQ.len {w : World} {Av : Nat → Prop} {X : Option Addr} {n c : Nat} {q : List PE} (h : LsQ w Av X n c q) : q.length = n := by
  obtain ⟨l, h1, rfl⟩ := h
  rw [List.length_map, h1.len]
theorem fromQ_len (q : List PE) (i most : Int) : (fromQ q i most).length ≤ q.length := by
  unfold fromQ
  split
  · simp
  · simp; omega
end Go.Proofs.Ytbellndcgagclaa

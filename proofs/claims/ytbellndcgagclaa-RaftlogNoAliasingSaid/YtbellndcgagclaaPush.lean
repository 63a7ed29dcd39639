import Derived.Test.YtbellndcgagclaaAdd
namespace Go.Proofs.Ytbellndcgagclaa
open Go.RowKit

/-- What a log's method leaves: the log anew, no other old block turned. -/
def LogPost (w : World) (Av : Nat → Prop) (lb : Nat) (r : Option Nat) (q : List PE) (v : Value) (e : Ending) (w' : World) : Prop :=
  ∃ r' A' c' l', e = .returned v ∧ IsLog w' Av lb r' A' c' l' ∧ l'.map En.pe = q ∧ Keep (fun i => i = lb ∨ some i = r) w w' ∧ (∀ g, r' = some g → r = some g ∨ w.heap.size ≤ g)
theorem rightP_len {w : World} {Av : Nat → Prop} {e : En} (h : EnOk w Av e) (hr : rightP e.pe = true) : e.m ≤ 8192 := by
  have := h.len
  have h2 : decide (e.body.length ≤ 8192) = true := by
    unfold rightP at hr
    exact ((Bool.and_eq_true _ _).mp hr).2
  have := of_decide_eq_true h2
  omega
theorem IsLog.ownBlock {w : World} {Av : Nat → Prop} {lb : Nat} {r : Option Nat} {A : Option Addr} {c : Nat} {l : List En} (h : IsLog w Av lb r A c l) : (Value.slice A l.length c).ownBlock = r := by
  rw [← h.at_]; cases A <;> rfl
/-- An entry is added at the end. -/
theorem IsLog.push {w w5 w7 : World} {Av : Nat → Prop} {lb : Nat} {r : Option Nat} {A : Option Addr} {c : Nat} {l : List En} (hAv : ∀ i, Av i → i < w.heap.size) (h : IsLog w Av lb r A c l) (hk5 : Same w w5) {x : En} (hx : EnOk w5 (· < w.heap.size) x) (hr : rightP x.pe = true)
    {o : Obj} {A' : Option Addr} {c' : Nat} (ho : Own w7 0 46 3 (.slice A' (l.length + 1) c') (l.length + 1) (enFlat l ++ x.cells)) (hg : (w5.alloc o).grownBy w7 (Value.slice A l.length c).ownBlock)
    (hwh : A'.map (·.block) = (Value.slice A l.length c).ownBlock ∨ A'.map (·.block) = some (w5.alloc o).heap.size) :
    IsLog (w7.setCell ⟨lb, 0, none⟩ (.slice A' (l.length + 1) c')) Av lb (A'.map (·.block)) A' c' (l ++ [x]) ∧ Keep (fun i => i = lb ∨ some i = r) w (w7.setCell ⟨lb, 0, none⟩ (.slice A' (l.length + 1) c')) ∧ (∀ g, A'.map (·.block) = some g → r = some g ∨ w.heap.size ≤ g) ∧
      w7.cell? ⟨lb, 0, none⟩ = some (.slice A l.length c) ∧ w7.frozen? ⟨lb, 0, none⟩ = false := by
  have hob := h.ownBlock
  rw [hob] at hg hwh
  have hlb := h.top.lt
  have hsz : (w5.alloc o).heap.size = w5.heap.size + 1 := by simp
  have h5 := hk5.size
  have hrlt : ∀ g, r = some g → g < w.heap.size := fun g e => h.row.lt g (by rw [hob]; exact e)
  have hrn : ∀ g, r = some g → g ≠ lb := fun g e => (h.rv g e).2
  have hk7 : Keep (fun i => some i = r) w w7 := (Keep.alloc (hk5.wide (fun _ _ f => f.elim)) o).grown hg (fun g e _ => e.symm)
  have ht7 : Blk w7 lb 73 #[.slice A l.length c] := h.top.keep hk7 (fun e => hrn lb e.symm rfl)
  have hnew : ∀ g, A'.map (·.block) = some g → r = some g ∨ w5.heap.size ≤ g := by
    intro g e
    rcases hwh with h1 | h1
    · left; rw [← h1, e]
    · right; rw [e] at h1; injection h1 with h1; omega
  have hne : ∀ g, A'.map (·.block) = some g → g ≠ lb := by
    intro g e
    rcases hnew g e with h1 | h1
    · exact hrn g h1
    · omega
  have hk8 : Keep (· = lb) w7 (w7.setCell ⟨lb, 0, none⟩ (.slice A' (l.length + 1) c')) := (Keep.refl _ w7).put 0 _
  refine ⟨⟨?_, ?_, rfl, h.lbv, ?_, ?_, ?_⟩, ?_, ?_, ht7.at_ 0, ht7.free 0⟩
  · have := ht7.put 0 (.slice A' (l.length + 1) c')
    simpa using this
  · have hl1 : (l ++ [x]).length = l.length + 1 := by simp
    rw [hl1]
    have := ho.keepB hk8 (fun g e => hne g (by rw [← e]; cases A' <;> rfl))
    simpa [enFlat] using this
  · intro g e
    refine ⟨fun hav => ?_, hne g e⟩
    rcases hnew g e with h1 | h1
    · exact (h.rv g h1).1 hav
    · have := hAv g hav; omega
  · intro e he
    rcases List.mem_append.1 he with he | he
    · have h0 : EnOk w (fun i => Av i ∨ i = lb ∨ some i = A'.map (·.block) ∨ some i = r) e := (h.el e he).wide (fun i hi hs => by
        rcases hs with hs | hs | hs | hs
        · exact .inl hs
        · exact .inr (.inl hs)
        · rcases hnew i hs.symm with h1 | h1
          · exact .inr (.inr h1.symm)
          · omega
        · exact .inr (.inr hs))
      have h7 := h0.keep hk7 (fun i _ hs => .inr (.inr (.inr hs)))
      have h8 := h7.keep hk8 (fun i _ hs => .inr (.inl hs))
      exact h8.wide (fun i _ hs => by
        rcases hs with hs | hs | hs
        · exact .inl hs
        · exact .inr (.inl hs)
        · exact .inr (.inr (.inl hs)))
    · simp at he
      subst he
      have h5' : EnOk w5 (fun i => Av i ∨ i = lb ∨ some i = A'.map (·.block) ∨ some i = r) e := hx.wide (fun i hi hs => by
        rcases hs with hs | hs | hs | hs
        · exact hAv i hs
        · omega
        · rcases hnew i hs.symm with h1 | h1
          · exact hrlt i h1
          · omega
        · exact hrlt i hs.symm)
      have hk57 : Keep (fun i => some i = r) w5 w7 := ((Keep.refl _ w5).alloc o).grown hg (fun g e _ => e.symm)
      have h7 := h5'.keep hk57 (fun i _ hs => .inr (.inr (.inr hs)))
      have h8 := h7.keep hk8 (fun i _ hs => .inr (.inl hs))
      exact h8.wide (fun i _ hs => by
        rcases hs with hs | hs | hs
        · exact .inl hs
        · exact .inr (.inl hs)
        · exact .inr (.inr (.inl hs)))
  · intro e he
    rcases List.mem_append.1 he with he | he
    · exact h.ok e he
    · simp at he; subst he; exact hr
  · exact (hk7.wide (fun i _ hs => .inr hs)).setCell (fun _ => .inl rfl) _
  · intro g e
    rcases hnew g e with h1 | h1
    · exact .inl h1
    · right; omega
end Go.Proofs.Ytbellndcgagclaa

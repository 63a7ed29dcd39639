import Derived.Test.YtbellndcgagclaaPut
namespace Go.Proofs.Ytbellndcgagclaa
open Go.RowKit

/-- clear(s[l:]) as an operation of the walk -/
theorem Elem.clearLaw {P : Program} {t e : TypeId} {size bytes : Nat} {z : Value} (E : Elem P t e size bytes z) {w : World} {ops : Array Oper} {rest : List Oper} {o : Oper} {a : Act} {Q : Exit → Act → World → Prop} (x : Operand)
    (A B : Option Addr) (n c k m d : Nat) (hgd : o.guard = none) (ho : o.op = .call { callee := .builtin .clear, args := #[x], argTypes := #[t] }) (hx : a.eval x = .slice B m d) (hB : B = cutA A c k size) (hm : m = n - k) (hd : d = c - k)
    (base : Nat) (xs : List Value) (hown : Own w base e size (.slice A n c) n xs) (hk : k ≤ n) (hz1 : ∀ u ∈ z.cells, u.oneCell' = true)
    (h : ∀ w', Own w' base e size (.slice A k c) k (xs.take (k * size)) → w.grownBy w' (A.map (·.block)) → w'.heap.size = w.heap.size → wpList P ops Q rest (a.put o.dst (.tuple #[])) w') : wpList P ops Q (o :: rest) a w :=
  wpList_plain hgd fun K hK => by
    subst hB hm hd
    obtain ⟨w', hrun, h2, h3, h4⟩ := E.clear w base o.type A n c xs hown k hk hz1
    unfold Oper.wp execOp
    simp only [ho, resolve, invoke, builtin, Sem.run_bind, Sem.run_pure, Result.andThen_ok, List.map_toArray, List.map_cons, List.map_nil, hx, hrun]
    exact hK _ _ (h w' h2 h3 h4)
/-- clear of an empty slice -/
theorem Elem.clearNone {P : Program} {t e : TypeId} {size bytes : Nat} {z : Value} (E : Elem P t e size bytes z) {w : World} {ops : Array Oper} {rest : List Oper} {o : Oper} {a : Act} {Q : Exit → Act → World → Prop} (x : Operand)
    (B : Option Addr) (d : Nat) (hgd : o.guard = none) (ho : o.op = .call { callee := .builtin .clear, args := #[x], argTypes := #[t] }) (hx : a.eval x = .slice B 0 d)
    (h : wpList P ops Q rest (a.put o.dst (.tuple #[])) w) : wpList P ops Q (o :: rest) a w :=
  wpList_plain hgd fun K hK => by
    have hrun : (Builtin.clear_ #[t] o.type #[.slice B 0 d]).run P w = .ok (.tuple #[]) w := by
      cases B <;> simp [Builtin.clear_, run_underlying E.under]
    unfold Oper.wp execOp
    simp only [ho, resolve, invoke, builtin, Sem.run_bind, Sem.run_pure, Result.andThen_ok, List.map_toArray, List.map_cons, List.map_nil, hx, hrun]
    exact hK _ _ h
/-- the log is cut -/
theorem IsLog.cut {w w3 : World} {Av : Nat → Prop} {lb : Nat} {r : Option Nat} {A : Option Addr} {c : Nat} {l : List En} (h : IsLog w Av lb r A c l) (k : Nat) (hk : k ≤ l.length)
    (ho : Own w3 0 46 3 (.slice A k c) k ((enFlat l).take (k * 3))) (hg : w.grownBy w3 r) :
    IsLog (w3.setCell ⟨lb, 0, none⟩ (.slice A k c)) Av lb r A c (l.take k) ∧ Keep (fun i => i = lb ∨ some i = r) w (w3.setCell ⟨lb, 0, none⟩ (.slice A k c)) ∧
      w3.cell? ⟨lb, 0, none⟩ = some (.slice A l.length c) ∧ w3.frozen? ⟨lb, 0, none⟩ = false := by
  have hk3 : Keep (fun i => some i = r) w w3 := (Keep.refl _ w).grown hg (fun g e _ => e.symm)
  have hne : ∀ g, r = some g → g ≠ lb := fun g e => (h.rv g e).2
  have ht3 : Blk w3 lb 73 #[.slice A l.length c] := h.top.keep hk3 (fun e => hne lb e.symm rfl)
  have hk4 : Keep (· = lb) w3 (w3.setCell ⟨lb, 0, none⟩ (.slice A k c)) := (Keep.refl _ w3).put 0 _
  have hlen : (l.take k).length = k := by simp; omega
  refine ⟨⟨?_, ?_, h.at_, h.lbv, h.rv, ?_, fun e he => h.ok e (List.mem_of_mem_take he)⟩, ?_, ht3.at_ 0, ht3.free 0⟩
  · rw [hlen]
    simpa using ht3.put 0 (.slice A k c)
  · rw [hlen, ← enFlat_take]
    refine ho.keepB hk4 (fun g e => hne g ?_)
    rw [← h.at_, ← e]
    cases A <;> rfl
  · intro e he
    have h0 := h.el e (List.mem_of_mem_take he)
    exact (h0.keep hk3 (fun i _ hs => .inr (.inr hs))).keep hk4 (fun i _ hs => .inr (.inl hs))
  · exact (hk3.wide (fun i _ hs => .inr hs)).setCell (fun _ => .inl rfl) _
theorem chain_ok : ∀ {t : Int} {es : List En}, chain En.pe t es = true → ∀ e ∈ es, rightP e.pe = true
  | t, e :: es, h, x, hx => by
    simp only [chain, Bool.and_eq_true] at h
    rcases List.mem_cons.1 hx with rfl | hx
    · exact h.1.1
    · exact chain_ok h.2 x hx
/-- the log while entries are added -/
def Growing (w : World) (Av : Nat → Prop) (lb : Nat) (r : Option Nat) (q : List PE) (wr : World) : Prop :=
  ∃ r' A' c' l', IsLog wr Av lb r' A' c' l' ∧ l'.map En.pe = q ∧ Keep (fun i => i = lb ∨ some i = r) w wr ∧ (∀ g, r' = some g → r = some g ∨ w.heap.size ≤ g)
theorem Growing.post {w wr : World} {Av : Nat → Prop} {lb : Nat} {r : Option Nat} {q : List PE} {v : Value} (h : Growing w Av lb r q wr) : LogPost w Av lb r q v (.returned v) wr := by
  obtain ⟨r', A', c', l', h1, h2, h3, h4⟩ := h
  exact ⟨r', A', c', l', rfl, h1, h2, h3, h4⟩
end Go.Proofs.Ytbellndcgagclaa

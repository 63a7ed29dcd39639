import Derived.Test.YtnejacmmbfeneaaGenM
namespace Go.Proofs.Ytnejacmmbfeneaa
open Go.RowKit Go.PlainAid

/-! ## The reference's round: what stands -/
structure MC (w : World) (mb : Nat) (m : RT) : Prop where
  n0 : w.cell? ⟨mb, 0, none⟩ = some (.int .i64 m.a0)
  n1 : w.cell? ⟨mb, 1, none⟩ = some (.int .i64 m.a1)
  n2 : w.cell? ⟨mb, 2, none⟩ = some (.int .i64 m.a2)
  n3 : w.cell? ⟨mb, 3, none⟩ = some (.int .i64 m.a3)
  n4 : w.cell? ⟨mb, 4, none⟩ = some (.int .i64 m.a4)
  n5 : w.cell? ⟨mb, 5, none⟩ = some (.int .i64 m.a5)
  n6 : w.cell? ⟨mb, 6, none⟩ = some (.int .i64 m.a6)
  nl : mb < w.heap.size
structure RI (w0 w : World) (b r d : Nat) (c : CF) (m : RT) (x : AS) (A : Option Addr) (cp : Nat) (la : List AC) : Prop where
  rm : RM w b r d c x
  own : Own w 0 59 8 (.slice A la.length cp) la.length (accells la)
  ok : ∀ a ∈ la, AcK w (fun i => i < w0.heap.size ∨ A.map (·.block) = some i) a
  kp : Keep (brd b r d) w0 w
  ba : ∀ q, A.map (·.block) = some q → w0.heap.size < q
  bx : Blk w w0.heap.size 54 m.cells.toArray
  val : la.map AC.val = x.l
  lt : b < w0.heap.size ∧ r < w0.heap.size ∧ d < w0.heap.size
def RI.Ex (w0 w : World) (b r d : Nat) (c : CF) (m : RT) (x : AS) (u : Value) : Prop := ∃ A cp la, u = .slice A la.length cp ∧ RI w0 w b r d c m x A cp la
section
variable {w0 w w' : World} {b r d : Nat} {c : CF} {m : RT} {x : AS} {A : Option Addr} {cp : Nat} {la : List AC}
theorem RI.mc (h : RI w0 w b r d c m x A cp la) : MC w w0.heap.size m := by
  have e := fun i => h.bx.at_ i
  exact ⟨e 0, e 1, e 2, e 3, e 4, e 5, e 6, h.bx.lt⟩
theorem RI.len (h : RI w0 w b r d c m x A cp la) : la.length = x.l.length := by rw [← h.val]; simp
/-- only the three blocks have changed -/
theorem RI.next (h : RI w0 w b r d c m x A cp la) {y : AS} (hm : RM w' b r d c y) (hl : y.l = x.l) (hk : Keep (brd b r d) w w') : RI w0 w' b r d c m y A cp la := by
  have hlt := h.lt
  have hfar : ∀ i, brd b r d i → i < w0.heap.size := fun i e => by
    rcases e with e | e | e
    · subst e; exact hlt.1
    · subst e; exact hlt.2.1
    · subst e; exact hlt.2.2
  refine ⟨hm, h.own.keepB hk (fun q hq e => ?_), fun a ha => (h.ok a ha).keep hk (fun i _ e => .inl (hfar i e)), h.kp.trans hk (fun _ _ e => e), h.ba, h.bx.keep hk (fun e => ?_), by rw [hl]; exact h.val, h.lt⟩
  · rw [ownB] at hq
    have := h.ba q hq
    have := hfar q e
    omega
  · have := hfar _ e; omega
theorem RI.draw (h : RI w0 w b r d c m x A cp la) {n : Int} (hg : Gn w' 33 r (aft n x.s)) (hk : Keep (· = r) w w') : RI w0 w' b r d c m (x.draw n) A cp la :=
  h.next (h.rm.draw hg hk) rfl (hk.wide (fun _ _ e => .inr (.inl e)))
theorem RI.same (h : RI w0 w b r d c m x A cp la) (hk : Same w w') : RI w0 w' b r d c m x A cp la :=
  h.next (h.rm.same hk) rfl (hk.wide (fun _ _ f => f.elim))
/-- an action is appended -/
theorem RI.push (h : RI w0 w b r d c m x A cp la) {w5 w7 : World} (hk5 : Same w w5) (a : AC) (ha : AcK w (fun i => i < w0.heap.size ∨ A.map (·.block) = some i) a) {A' : Option Addr} {c' : Nat}
    (ho : Own w7 0 59 8 (.slice A' (la.length + 1) c') (la.length + 1) (accells la ++ a.cells)) (hg : w5.grownBy w7 (Value.slice A la.length cp).ownBlock)
    (hwh : A'.map (·.block) = (Value.slice A la.length cp).ownBlock ∨ A'.map (·.block) = some w5.heap.size) {v : AV} (hv : a.val = v) :
    RI w0 w7 b r d c m (x.add v) A' c' (la ++ [a]) := by
  subst hv
  rw [ownB] at hg hwh
  have h5 := hk5.size
  have hal : ∀ q, A.map (·.block) = some q → q < w.heap.size := fun q e => h.own.lt q (by rw [ownB, e])
  have hk7 : Keep (fun i => A.map (·.block) = some i) w w7 := (hk5.wide (fun _ _ f => f.elim)).grown hg (fun q e _ => e)
  have h0 := h.kp.size
  have hnew : ∀ q, A'.map (·.block) = some q → A.map (·.block) = some q ∨ w.heap.size ≤ q := by
    intro q e
    rcases hwh with h1 | h1
    · left; rw [← h1, e]
    · right; rw [e] at h1; injection h1 with h1; omega
  have hlt := h.lt
  have hbx := h.bx.lt
  have far : ∀ q, q ≤ w0.heap.size → ¬ A.map (·.block) = some q := fun q hq e => by have := h.ba q e; omega
  have hll : (la ++ [a]).length = la.length + 1 := by simp
  refine ⟨(h.rm.far hk7 (far _ (by omega)) (far _ (by omega)) (far _ (by omega))).add _, ?_, ?_, h.kp.trans (hk7.wide (T := fun i => w0.heap.size ≤ i) (fun i _ e => by have := h.ba i e; omega)) (fun i hi e => by omega), ?_, h.bx.keep hk7 (far _ (by omega)), by simp [AS.add, h.val], h.lt⟩
  · rw [hll, ← accells_snoc]; exact ho
  · intro y hy
    have key : ∀ y, AcK w (fun i => i < w0.heap.size ∨ A.map (·.block) = some i) y → AcK w7 (fun i => i < w0.heap.size ∨ A'.map (·.block) = some i) y := by
      intro y hy
      have h1 : AcK w (fun i => (i < w0.heap.size ∨ A.map (·.block) = some i) ∨ A'.map (·.block) = some i) y := hy.wide (fun i hi hs => by
        rcases hs with hs | hs
        · exact hs
        · rcases hnew i hs with h2 | h2
          · exact .inr h2
          · omega)
      exact (h1.keep hk7 (fun i _ hs => .inl (.inr hs))).wide (fun i _ hs => by
        rcases hs with hs | hs
        · exact .inl (.inl hs)
        · exact .inr hs)
    rcases List.mem_append.1 hy with hy | hy
    · exact key y (h.ok y hy)
    · simp at hy; subst hy; exact key _ ha
  · intro q e
    rcases hnew q e with h2 | h2
    · exact h.ba q h2
    · omega
end
/-! ## The model's actions add one -/
theorem dialM_l (nd : Int) (x : AS) : ∃ v, (dialM nd x).l = x.l ++ [v] := by
  rw [dialM_eq, AS.add_l, AS.dial_l, srcM_l, AS.draw_l, AS.draw_l]; exact ⟨_, rfl⟩
theorem crashM_l1 (k : Nat) (x : AS) : ∃ v, (crashM k x).l = x.l ++ [v] := by
  unfold crashM; split
  · exact ⟨_, rfl⟩
  · exact ⟨_, rfl⟩
theorem roadM_l1 (i j : Int) (x : AS) : ∃ v, (roadM i j x).l = x.l ++ [v] := by
  unfold roadM; split
  · exact ⟨_, rfl⟩
  · exact ⟨_, rfl⟩
theorem partM_l1 (p : Nat) (x : AS) : ∃ v, (partM p x).l = x.l ++ [v] := by
  unfold partM; split
  · exact ⟨_, rfl⟩
  · refine ⟨⟨8, 0, 0, 0, 0, 0, [], (grpM p x).1⟩, ?_⟩
    show (grpM p x).2.l ++ _ = _
    rw [(grpM_di x p).2.2.2]
theorem add_inj {x x' y : AS} {v : AV} (hy : y = x'.add v) (h : ∃ u, y.l = x.l ++ [u]) : x'.l = x.l := by
  obtain ⟨u, hu⟩ := h
  rw [hy, AS.add_l] at hu
  exact List.append_inj_left' hu rfl
theorem splitM_part (p : Nat) (rate : Int) (x : AS) : splitM p rate x = if occ rate x.s = true then partM p (x.draw 100) else x.draw 100 := by
  unfold splitM partM; rfl
end Go.Proofs.Ytnejacmmbfeneaa

import Derived.Test.YtnejacmmbfeneaaGenB1
import Derived.Deep.CutRange
namespace Go.Proofs.Ytnejacmmbfeneaa
open Go.RowKit Go.PlainAid

/-! ## The model of a round -/
structure AS where
  s : Int
  di : Int
  sp : Bool
  dn : List Bool
  l : List AV
def AS.draw (x : AS) (n : Int) : AS := ⟨aft n x.s, x.di, x.sp, x.dn, x.l⟩
def AS.add (x : AS) (a : AV) : AS := ⟨x.s, x.di, x.sp, x.dn, x.l ++ [a]⟩
def AS.dial (x : AS) : AS := ⟨x.s, x.di + 1, x.sp, x.dn, x.l⟩
def pair (n m : Int) : List Int := if m < n then [m, n] else if n < m then [n, m] else [n]
/-- the nodes of a new source, and the state behind -/
def srcM (nd n : Int) (x : AS) : List Int × AS := if chc 1 2 x.s then (pair n (roll nd (x.draw 2).s), (x.draw 2).draw nd) else ([n], x.draw 2)
theorem srcM_rest (nd n : Int) (x : AS) : (srcM nd n x).2 = ⟨(srcM nd n x).2.s, x.di, x.sp, x.dn, x.l⟩ := by unfold srcM; split <;> rfl
theorem pair_len (n m : Int) : (pair n m).length ≤ 2 := by unfold pair; split <;> (try split) <;> simp
theorem srcM_len (nd n : Int) (x : AS) : (srcM nd n x).1.length ≤ 2 := by
  unfold srcM; split
  · exact pair_len _ _
  · simp
def dialM (nd : Int) (x : AS) : AS :=
  let n := roll nd x.s
  let x1 := x.draw nd
  let k := 1 + roll 3 x1.s
  let y := srcM nd n (x1.draw 3)
  y.2.dial.add ⟨1, 0, 0, 0, 0, n, [(k, y.1)], []⟩
def b1M (nd rate : Int) (x : AS) : AS := if occ rate x.s then dialM nd (x.draw 100) else x.draw 100
def b2M (x : AS) : AS := if 0 < x.di then (if chc 1 2 x.s then (((x.draw 2).draw x.di).draw 3).add ⟨2, 0, roll 3 ((x.draw 2).draw x.di).s, 1 + roll x.di (x.draw 2).s, 0, 0, [], []⟩ else x.draw 2) else x
def b3M (x : AS) : AS := if 0 < x.di then (if chc 1 20 x.s then ((x.draw 20).draw x.di).add ⟨3, 0, 0, 1 + roll x.di (x.draw 20).s, 0, 0, [], []⟩ else x.draw 20) else x
structure GI (B : Nat) (w : World) (g r : Nat) (c : CF) (m : RT) (x : AS) (A : Option Addr) (cp : Nat) (la : List AC) : Prop where
  gm : GM w g r c m x.s x.di x.sp x.dn A cp la
  val : la.map AC.val = x.l
  bg : B ≤ g
  br : B ≤ r
  ba : ∀ q, A.map (·.block) = some q → B ≤ q
def GI.Ex (B : Nat) (w : World) (g r : Nat) (c : CF) (m : RT) (x : AS) : Prop := ∃ A cp la, GI B w g r c m x A cp la
def plA (k v n c o nd : Int) : AC := ⟨k, v, n, c, o, nd, none, 0, [], none, 0, []⟩
theorem plA_cells (k v n c o nd : Int) : (plA k v n c o nd).cells.toArray = #[.int .i64 k, .int .i64 v, .int .i64 n, .int .i64 c, .int .i64 o, .int .i64 nd, .slice none 0 0, .slice none 0 0] := rfl
theorem plA_val (k v n c o nd : Int) : (plA k v n c o nd).val = ⟨k, v, n, c, o, nd, [], []⟩ := rfl
theorem plA_ok (w : World) (Av : Nat → Prop) (k v n c o nd : Int) : AcK w Av (plA k v n c o nd) := AcK.plain w Av k v n c o nd
theorem AS.add_di (x : AS) (a : AV) : (x.add a).di = x.di := rfl
theorem AS.add_l (x : AS) (a : AV) : (x.add a).l = x.l ++ [a] := rfl
theorem AS.dial_di (x : AS) : x.dial.di = x.di + 1 := rfl
theorem AS.dial_l (x : AS) : x.dial.l = x.l := rfl
theorem AS.draw_di (x : AS) (n : Int) : (x.draw n).di = x.di := rfl
theorem AS.draw_l (x : AS) (n : Int) : (x.draw n).l = x.l := rfl
theorem srcM_di (nd n : Int) (x : AS) : (srcM nd n x).2.di = x.di := by
  unfold srcM
  by_cases h : chc 1 2 x.s = true
  · rw [if_pos h, AS.draw_di, AS.draw_di]
  · rw [if_neg h, AS.draw_di]
theorem srcM_l (nd n : Int) (x : AS) : (srcM nd n x).2.l = x.l := by
  unfold srcM
  by_cases h : chc 1 2 x.s = true
  · rw [if_pos h, AS.draw_l, AS.draw_l]
  · rw [if_neg h, AS.draw_l]
theorem b1M_di (nd rate : Int) (x : AS) : (b1M nd rate x).di = if occ rate x.s = true then x.di + 1 else x.di := by
  unfold b1M
  by_cases h : occ rate x.s = true
  · rw [if_pos h, if_pos h, dialM, AS.add_di, AS.dial_di, srcM_di, AS.draw_di, AS.draw_di, AS.draw_di]
  · rw [if_neg h, if_neg h, AS.draw_di]
theorem b1M_l (nd rate : Int) (x : AS) : (b1M nd rate x).l.length ≤ x.l.length + 1 := by
  unfold b1M
  by_cases h : occ rate x.s = true
  · rw [if_pos h, dialM, AS.add_l, AS.dial_l, srcM_l, AS.draw_l, AS.draw_l, AS.draw_l, List.length_append]; exact Nat.le_refl _
  · rw [if_neg h, AS.draw_l]; exact Nat.le_succ _
theorem b1M_in (nd rate : Int) (x : AS) : x.di ≤ (b1M nd rate x).di ∧ (b1M nd rate x).di ≤ x.di + 1 ∧ (b1M nd rate x).l.length ≤ x.l.length + 1 := by
  refine ⟨?_, ?_, b1M_l nd rate x⟩
  · rw [b1M_di]; generalize occ rate x.s = b; cases b <;> simp <;> omega
  · rw [b1M_di]; generalize occ rate x.s = b; cases b <;> simp <;> omega
/-- the action of a call -/
def dialA (n k : Int) (s b : Nat) (nodes : List Int) : AC := ⟨1, 0, 0, 0, 0, n, some ⟨s, 0, none⟩, 1, [⟨k, some ⟨b, 0, none⟩, nodes.length, nodes⟩], none, 0, []⟩
theorem dialA_cells (n k : Int) (s b : Nat) (nodes : List Int) : (dialA n k s b nodes).cells.toArray = #[.int .i64 1, .int .i64 0, .int .i64 0, .int .i64 0, .int .i64 0, .int .i64 n, .slice (some ⟨s, 0, none⟩) 1 1, .slice none 0 0] := rfl
theorem dialA_val (n k : Int) (s b : Nat) (nodes : List Int) : (dialA n k s b nodes).val = ⟨1, 0, 0, 0, 0, n, [(k, nodes)], []⟩ := rfl
theorem dialA_ok {W : World} {Av : Nat → Prop} {n k : Int} {s b : Nat} {nodes : List Int} (hs : Blk W s 61 #[.int .i64 k, .slice (some ⟨b, 0, none⟩) nodes.length nodes.length]) (hb : Blk W b 3 (icellsC nodes).toArray) (h1 : ¬ Av s) (h2 : ¬ Av b) (hl : nodes.length ≤ 2) : AcK W Av (dialA n k s b nodes) := by
  refine ⟨Sl.of_blk (n := 1) hs rfl h1, fun x hx => ?_, Sl.nil _ _ _ _, ?_, ?_⟩
  · simp only [dialA, List.mem_singleton] at hx
    subst hx
    have := Sl.of_blk (n := nodes.length) (size := 1) (Av := Av) hb (by simp [icellsC]) h2
    exact ⟨by simpa using this, by simp only; omega⟩
  · simp only [dialA, List.length_cons, List.length_nil]; omega
  · simp only [dialA, List.length_nil]; omega
section
variable {B : Nat} {w w' : World} {g r : Nat} {c : CF} {m : RT} {x : AS} {A : Option Addr} {cp : Nat} {la : List AC}
theorem GI.draw (h : GI B w g r c m x A cp la) {n : Int} (hg : Gn w' 63 r (aft n x.s)) (hk : Keep (· = r) w w') : GI B w' g r c m (x.draw n) A cp la := ⟨h.gm.draw hg hk, h.val, h.bg, h.br, h.ba⟩
theorem GI.draws (h : GI B w g r c m x A cp la) {s' : Int} (hg : Gn w' 63 r s') (hk : Keep (· = r) w w') : GI B w' g r c m ⟨s', x.di, x.sp, x.dn, x.l⟩ A cp la := ⟨h.gm.draw hg hk, h.val, h.bg, h.br, h.ba⟩
theorem GI.same (h : GI B w g r c m x A cp la) (hk : Same w w') : GI B w' g r c m x A cp la := ⟨h.gm.same hk, h.val, h.bg, h.br, h.ba⟩
theorem GI.len (h : GI B w g r c m x A cp la) : la.length = x.l.length := by rw [← h.val]; simp
theorem GI.keepR (h : GI B w g r c m x A cp la) (hk : Keep (· = r) w w') : Keep (B ≤ ·) w w' := hk.wide (fun i _ e => by subst e; exact h.br)
theorem GI.keepA (h : GI B w g r c m x A cp la) (hk : Keep (fun i => i = g ∨ A.map (·.block) = some i) w w') : Keep (B ≤ ·) w w' := hk.wide (fun i _ e => by
  rcases e with e | e
  · subst e; exact h.bg
  · exact h.ba i e)
/-- the dials are counted -/
theorem GI.dialed (h : GI B w g r c m x A cp la) : GI B (w.setCell ⟨g, 23, none⟩ (.int .i64 (x.di + 1))) g r c m x.dial A cp la :=
  ⟨h.gm.put 23 (.int .i64 (x.di + 1)) h.gm.dl rfl, h.val, h.bg, h.br, h.ba⟩
theorem GI.far (h : GI B w g r c m x A cp la) {q : Nat} (hq : w.heap.size ≤ q) : ¬ (q = g ∨ q = r ∨ A.map (·.block) = some q) := by
  have h1 := h.gm.blk.lt
  have h2 := h.gm.rng.blk.lt
  intro hs
  rcases hs with hs | hs | hs
  · omega
  · omega
  · have := h.gm.own.lt q (by rw [ownB]; exact hs); omega
/-- what adding leaves -/
theorem GI.added (h : GI B w g r c m x A cp la) {A' : Option Addr} {cp' : Nat} {a : AC} (hw : B ≤ w.heap.size) (hg : GM w' g r c m x.s x.di x.sp x.dn A' cp' (la ++ [a])) (_hk : Keep (fun i => i = g ∨ A.map (·.block) = some i) w w') (ha : ∀ q, A'.map (·.block) = some q → A.map (·.block) = some q ∨ w.heap.size ≤ q) {v : AV} (hv : a.val = v) : GI B w' g r c m (x.add v) A' cp' (la ++ [a]) :=
  ⟨hg, by simp [AS.add, h.val, hv], h.bg, h.br, fun q e => by
    rcases ha q e with h1 | h1
    · exact h.ba q h1
    · omega⟩
end
end Go.Proofs.Ytnejacmmbfeneaa

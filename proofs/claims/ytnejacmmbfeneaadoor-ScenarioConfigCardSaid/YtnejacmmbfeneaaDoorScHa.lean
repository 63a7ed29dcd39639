import Derived.Test.YtnejacmmbfeneaaDoorScG
import Derived.Test.YtnejacmmbfeneaaDoorNsG
namespace Go.Proofs.YtnejacmmbfeneaaDoor
open Go.RowKit Go.Shelf

attribute [local go_sem] Oper.semAt_some

/-! ## What abides a turn of blocks that are no cells; marks -/
section
variable {W W' : World} {row : Option Nat}
theorem Blk.grownX {g : Nat} {t : TypeId} {cs : Array Value} (h : Blk W g t cs) (hg : W.grownBy W' row) (hr : ∀ r, row = some r → ∃ o : Obj, W.heap[r]? = some o ∧ o.isCells = false) : Blk W' g t cs :=
  (hg.block g h.lt (fun e => by
    obtain ⟨o, ho, hc⟩ := hr g e.symm
    rw [h] at ho; cases ho; cases hc)).trans h
theorem Own.grownX {base : Nat} {e : TypeId} {size : Nat} {v : Value} {n : Nat} {xs : List Value} (h : Own W base e size v n xs) (hg : W.grownBy W' row) (hr : ∀ r, row = some r → ∃ o : Obj, W.heap[r]? = some o ∧ o.isCells = false) : Own W' base e size v n xs := by
  refine ⟨h.1, ?_⟩
  rcases h.2 with h2 | ⟨g, cap, cur, rfl, hb, hh, r⟩
  · exact .inl h2
  · exact .inr ⟨g, cap, cur, rfl, hb, Blk.grownX (t := e) (cs := cur) hh hg hr, r⟩
theorem KeepsFrom.of_keep {S : Nat → Prop} (B : Nat) (h : Keep S W W') (hS : ∀ k o, S k → W.heap[k]? = some o → o.isCells = true) : KeepsFrom B W W' :=
  ⟨h.size, fun k o _ hk ho => (h.block k (Array.getElem?_eq_some_iff.1 hk).1 (fun hs => by rw [hS k o hs hk] at ho; cases ho)).trans hk⟩
theorem Blk.cellsOf {g : Nat} {t : TypeId} {cs : Array Value} (h : Blk W g t cs) : ∀ o, W.heap[g]? = some o → o.isCells = true := fun o ho => by
  rw [h] at ho; cases ho; rfl
theorem Keep.of_belowN {n₀ : Nat} (h : Below n₀ W W') : Keep (fun i => n₀ ≤ i) W W' := ⟨h.os, h.tape, h.output, h.size, fun k _ hn => h.block k (by omega)⟩
theorem Keep.to_below {S : Nat → Prop} {n₀ : Nat} (h : Keep S W W') (hS : ∀ i, S i → n₀ ≤ i) (hn : n₀ ≤ W.heap.size) : Below n₀ W W' := ⟨h.os, h.tape, h.output, h.size, fun k hk => h.block k (by omega) (fun hs => by have := hS k hs; omega)⟩
end
/-- The blocks of the marks that a function has laid. -/
def Marks (W : World) (ds : List Nat) : Prop := ds.Nodup ∧ ∀ D ∈ ds, W.heap[D]? = some (.deferred (some []))
theorem Marks.keep {S : Nat → Prop} {W W' : World} {ds : List Nat} (h : Marks W ds) (hk : Keep S W W') (hS : ∀ k o, S k → W.heap[k]? = some o → o.isCells = true) : Marks W' ds :=
  ⟨h.1, fun D hD => (KeepsFrom.of_keep 0 hk hS).same D _ (Nat.zero_le _) (h.2 D hD) rfl⟩
theorem Marks.from {W W' : World} {ds : List Nat} {B : Nat} (h : Marks W ds) (hk : Below B W W') (hB : ∀ D ∈ ds, D < B) : Marks W' ds :=
  ⟨h.1, fun D hD => (hk.block D (hB D hD)).trans (h.2 D hD)⟩
theorem Marks.lt {W : World} {ds : List Nat} (h : Marks W ds) : ∀ D ∈ ds, D < W.heap.size := fun D hD => (Array.getElem?_eq_some_iff.1 (h.2 D hD)).1
theorem Marks.cons {W : World} {ds : List Nat} {D : Nat} (h : Marks W ds) (hD : W.heap[D]? = some (.deferred (some []))) (hn : D ∉ ds) : Marks W (D :: ds) :=
  ⟨List.nodup_cons.2 ⟨hn, h.1⟩, fun E hE => by
    rcases List.mem_cons.1 hE with rfl | hE
    · exact hD
    · exact h.2 E hE⟩
def markD (D : Nat) : Deferred := { target := .collected D, args := #[] }
/-- A function returns: its marks are taken over, then the result is read. -/
theorem leaves_marks {F : Fence} {n : Nat} {P : Program} {fn : Func} {tmps : Array Value} {R : Ending → World → Prop} : ∀ (ds : List Nat) (W : World), Marks W ds →
    (∀ W', Keep (fun i => i ∈ ds) W W' → ∃ v, (results fn tmps).run P W' = .ok v W' ∧ R (.returned v) W') → LeavesInM F n P fn tmps R (ds.map markD) .returning W
  | [], W, _, h => h W (Keep.refl _ _)
  | D :: ds, W, hm, h => by
    have hl := hm.lt D (List.mem_cons_self ..)
    have hk : Keep (fun i => i = D) W (W.putObj D (.deferred none)) := ⟨rfl, rfl, rfl, by simp, fun k _ hk => World.putObj_heap_other (fun e => hk (by omega))⟩
    refine ⟨by simp, .inl ⟨D, _, rfl, run_takeDeferred (hm.2 D (List.mem_cons_self ..)), leaves_marks ds _ ⟨(List.nodup_cons.1 hm.1).2, fun E hE => ?_⟩ (fun W' hk' => h W' ?_)⟩⟩
    · have hne : E ≠ D := fun e => (List.nodup_cons.1 hm.1).1 (e ▸ hE)
      exact (World.putObj_heap_other (fun e => hne (by omega))).trans (hm.2 E (List.mem_cons_of_mem _ hE))
    · exact (hk.wide (fun i _ e => by rw [e]; exact List.mem_cons_self ..)).trans hk' (fun i _ e => List.mem_cons_of_mem _ e)

/-! ## Iterators over the members of a list -/
theorem seq_mem {F : Fence} {n : Nat} {P : Program} {g : Nat} {lb : Array Value} {Kp : World → World → Prop} {L : List Int} {N : Nat} {w : World}
    (H : ∀ (l : Nat) (J Jx : List Int → World → Prop) (W : World), Below w.heap.size w W → AbidesFrom W.heap.size J → AbidesFrom W.heap.size Jx →
      (∀ pre x W1, J pre W1 → pre.length < N → x ∈ L → YieldAt F (n - 1) P l #[.int .i64 x] W1 fun e W' => (e = .returned (.bool true) ∧ J (pre ++ [x]) W' ∧ Kp W1 W') ∨ (e = .returned (.bool false) ∧ Jx (pre ++ [x]) W')) →
      J [] W → CallsIn F n P g (#[.func (.yield l) #[] #[]] ++ lb) W fun e W' => (∃ v, e = .returned v) ∧ ((∃ ys, ys = L ∧ J ys W') ∨ (∃ pre, pre <+: L ∧ Jx pre W'))) :
    SeqStopsK F n P g lb (fun x : { x : Int // x ∈ L } => #[Value.int .i64 x.1]) Kp (fun ys => ys.map (·.1) = L) (fun _ => True) N w := by
  intro l J Jx W hW hJ hJx hY h0
  refine (H l (fun pre W => ∃ p : List { x : Int // x ∈ L }, p.map (·.1) = pre ∧ J p W) (fun pre W => ∃ p : List { x : Int // x ∈ L }, p.map (·.1) = pre ∧ Jx p W) W hW
    (fun s A B row hs hg hr => by
      obtain ⟨p, e, h⟩ := hs
      exact ⟨p, e, hJ p A B row h hg hr⟩)
    (fun s A B row hs hg hr => by
      obtain ⟨p, e, h⟩ := hs
      exact ⟨p, e, hJx p A B row h hg hr⟩)
    (fun pre x W1 hj hlen hx => by
      obtain ⟨p, rfl, hj⟩ := hj
      refine (hY p ⟨x, hx⟩ W1 hj (by simpa using hlen)).mono ?_
      rintro e W' (⟨he, h1, h2⟩ | ⟨he, h1⟩)
      · exact .inl ⟨he, ⟨_, by simp, h1⟩, h2⟩
      · exact .inr ⟨he, ⟨_, by simp, h1⟩⟩) ⟨[], rfl, h0⟩).mono ?_
  rintro e W' ⟨hv, (⟨ys, rfl, p, hp, h1⟩ | ⟨pre, _, p, _, h1⟩)⟩
  · exact ⟨hv, .inl ⟨p, hp, h1⟩⟩
  · exact ⟨hv, .inr ⟨p, trivial, h1⟩⟩
theorem each_mem (n : Nat) (hn : 1 ≤ n) (Bn n₀ : Nat) (h0 : 0 < n₀) (v : Value) (ws : List Nat) (w : World) (hBn : Bn < w.heap.size) (hn₀ : n₀ ≤ w.heap.size)
    (hc : w.cell? ⟨Bn, 0, none⟩ = some v) (hs : IsSet w v ws) (hlo : ∀ g, v = .pointer (some ⟨g, 0, none⟩) → g < n₀) (hT : Tab w) :
    SeqStopsK Fence.wide n Tryd.prog 39 #[.pointer (some ⟨Bn, 0, none⟩)] (fun x : { x : Int // x ∈ elemsI ws } => #[Value.int .i64 x.1]) (Below n₀) (fun ys => ys.map (·.1) = elemsI ws) (fun _ => True) (elemsI ws).length w :=
  seq_mem fun l J Jx W hW hJ _ hY h1 =>
  each1_in n hn l Bn n₀ h0 v ws J Jx hY (fun pre X hX => hJ pre X X.drew none hX ⟨rfl, rfl, rfl, Nat.le_refl _, fun _ _ _ => rfl⟩ (fun r e => by cases e)) W ((hW.cell (p := ⟨Bn, 0, none⟩) hBn).trans hc)
    ⟨hs.ok, hs.mem.imp id (fun ⟨g, e, b, q⟩ => ⟨g, e, b.below (hW.mono hn₀) (hlo g e), q⟩)⟩ hlo (hT.below (hW.mono hn₀) h0) h1

/-! ## The graph's small functions -/
theorem nodes_any (w : World) (g N : Nat) (l : List E3) (E : Option Addr) (cE po pi : Nat) (hG : IsG w g N l E cE po pi) (_hN : N ≤ 4096) :
    Calls Tryd.prog 28 #[.pointer (some ⟨g, 0, none⟩)] w fun e w' => e = .returned (.int .i64 N) ∧ w = w' := by
  have c0 : w.cell? ⟨g, 0, none⟩ = some (.slice E l.length cE) := (hG.hdr.at_ 0).trans rfl
  have c1 : w.cell? ⟨g, 1, none⟩ = some (.slice (some ⟨po, 0, none⟩) N N) := (hG.hdr.at_ 1).trans rfl
  clear hG
  go_enter Tryd.func28, Tryd.ntmps28
  go_wp2
  go_ret
  exact ⟨rfl, rfl⟩
theorem enumerate_any (w : World) (X : Option Addr) (m c : Nat) (h : Int) :
    Calls Tryd.prog 41 #[.slice X m c, .int .i64 h] w fun e w' => e = .returned (.func (.func 42) #[] #[.pointer (some ⟨w.heap.size + 1, 0, none⟩), .pointer (some ⟨w.heap.size, 0, none⟩)]) ∧ (w.alloc (.cells #[.slice X m c] 50)).alloc (.cells #[.int .i64 h] 3) = w' := by
  go_enter Tryd.func41, Tryd.ntmps41
  go_wp2
  go_ret
  exact ⟨rfl, rfl⟩
theorem outE_any (w : World) (g N : Nat) (l : List E3) (E : Option Addr) (cE po pi : Nat) (hG : IsG w g N l E cE po pi) (h : Int) :
    Calls Tryd.prog 30 #[.pointer (some ⟨g, 0, none⟩), .int .i64 h] w fun e w' => e = .returned (.func (.func 42) #[] #[.pointer (some ⟨w.heap.size + 1, 0, none⟩), .pointer (some ⟨w.heap.size, 0, none⟩)]) ∧ (w.alloc (.cells #[.slice (some ⟨po, 0, none⟩) N N] 50)).alloc (.cells #[.int .i64 h] 3) = w' := by
  have c0 : w.cell? ⟨g, 0, none⟩ = some (.slice E l.length cE) := (hG.hdr.at_ 0).trans rfl
  have c1 : w.cell? ⟨g, 1, none⟩ = some (.slice (some ⟨po, 0, none⟩) N N) := (hG.hdr.at_ 1).trans rfl
  clear hG
  go_enter Tryd.func30, Tryd.ntmps30
  go_wp2_with (go_at_call 41; (with_reducible refine (enumerate_any _ _ _ _ _).mono ?_); rintro e w' ⟨rfl, rfl⟩)
  go_ret
  exact ⟨rfl, rfl⟩

set_option maxRecDepth 100000 in
set_option maxHeartbeats 4000000 in
/-- The edges of a node's row, one behind the other. -/
theorem enum1_in (n : Nat) (hn : 1 ≤ n) (l Bh Bl n₀ p N h : Nat) (A : Option Addr) (c : Nat) (L : List Int) (J Jx : List Int → World → Prop) (_hN : N ≤ 4096) (hL : L.length ≤ 16384)
    (hY : ∀ pre x W, J pre W → pre.length < L.length → x ∈ L → YieldAt Fence.wide (n - 1) Tryd.prog l #[.int .i64 x] W fun e W' =>
      (e = .returned (.bool true) ∧ J (pre ++ [x]) W' ∧ Below n₀ W W') ∨ (e = .returned (.bool false) ∧ Jx (pre ++ [x]) W'))
    (W : World) (hBh : W.cell? ⟨Bh, 0, none⟩ = some (.int .i64 (h : Int))) (hBl : W.cell? ⟨Bl, 0, none⟩ = some (.slice (some ⟨p, 0, none⟩) N N)) (hh : h < N)
    (hrow : W.cell? ⟨p, h, none⟩ = some (.slice A L.length c)) (hsl : Sl W (fun i => n₀ ≤ i) 1 A L.length (icellsC L)) (hJ : J [] W) :
    CallsIn Fence.wide n Tryd.prog 42 #[.func (.yield l) #[] #[], .pointer (some ⟨Bh, 0, none⟩), .pointer (some ⟨Bl, 0, none⟩)] W fun e W' => (∃ v, e = .returned v) ∧
      ((∃ ys, ys = L ∧ J ys W') ∨ (∃ pre, pre <+: L ∧ Jx pre W')) := by
  refine callsIn_of_wp Tryd.func42 rfl trivial ?_ rfl
  simp only [Tryd.ntmps42, List.size_toArray, List.length_cons, List.length_nil, Nat.reduceAdd, Nat.reduceSub, Array.replicate_succ, Array.replicate_zero, List.push_toArray, List.append_toArray, List.nil_append, List.cons_append]
  have hi0 : (0 : Int) ≤ (h : Int) := Int.natCast_nonneg _
  have hi1 : (h : Int) < (N : Int) := by omega
  have HS := hid hsl
  clear hsl
  gi_wp2
  clear hBh hBl hrow
  have hd1 : decide ((h : Int) < 0) = false := decide_eq_false (by omega)
  have hd2 : decide (N ≤ h) = false := decide_eq_false (by omega)
  simp only [hd1, hd2, Bool.or_self]
  clear hd1 hd2
  gi_loopw [19] (fun i wr => ∃ k : Nat, k ≤ L.length ∧ i = .int .i64 k ∧ J (L.take k) wr ∧ Sl wr (fun i => n₀ ≤ i) 1 A L.length (icellsC L)) (fun i _ => L.length - (RowKit.intOf i).toNat)
  case atStart => exact ⟨0, Nat.zero_le _, rfl, by rw [List.take_zero]; exact hJ, HS.out⟩
  case round =>
    obtain ⟨k, hk, rfl, hJk, hsk⟩ := hrel
    by_cases hkn : k < L.length
    · obtain ⟨x, hx⟩ := get_some hkn
      obtain ⟨b1, o1, rfl, hb1, x0⟩ := ints_at hsk hx
      have hk0 : (0 : Int) ≤ (k : Int) := Int.natCast_nonneg _
      have hk1 : (k : Int) < (L.length : Int) := by omega
      have HTS := hid (take_snoc hx)
      obtain ⟨fn, tmps, assign, body, hy, hR⟩ := hY (L.take k) x wr hJk (by rw [List.length_take]; omega) (List.mem_of_getElem? hx)
      have HSk := hid hsk
      clear hx hJk hsk
      gi_wp2
      refine hR.mono ?_
      rintro e W3 (⟨rfl, hJ3, hk3⟩ | ⟨rfl, hJx3⟩)
      · have HJ3 := hid hJ3
        have HS3 := hid (HSk.out.keep (Keep.of_belowN hk3) (fun i _ e => e))
        clear hJ3 hk3 hR hy x0
        gi_wp2
        go_roundw
        case rel => first | exact ⟨k + 1, by omega, by go_num, by rw [HTS.out]; exact HJ3.out, HS3.out⟩ | ((repeat apply Exists.intro); refine And.intro ?_ rfl; exact ⟨k + 1, by omega, by go_num, by rw [HTS.out]; exact HJ3.out, HS3.out⟩)
        case measure => simp [RowKit.intOf]; omega
      · have HJX := hid hJx3
        clear hJx3 hR hy
        gi_wp2
        refine bodyPost_ret (results_none rfl _ _ _) rfl ?_
        exact ⟨⟨_, rfl⟩, .inr ⟨L.take k ++ [x], by rw [← HTS.out]; exact List.take_prefix _ _, HJX.out⟩⟩
    · have hke : k = L.length := by omega
      subst hke
      rw [List.take_length] at hJk
      gi_wp2
      go_end0
      exact ⟨⟨_, rfl⟩, .inl ⟨L, rfl, hJk⟩⟩
theorem enum_mem (n : Nat) (hn : 1 ≤ n) (Bh Bl n₀ p N h : Nat) (A : Option Addr) (c : Nat) (L : List Int) (hN : N ≤ 4096) (hL : L.length ≤ 16384) (w : World) (hb1 : Bh < w.heap.size) (hb2 : Bl < w.heap.size) (_hn₀ : n₀ ≤ w.heap.size) (hp : p < w.heap.size)
    (hBh : w.cell? ⟨Bh, 0, none⟩ = some (.int .i64 (h : Int))) (hBl : w.cell? ⟨Bl, 0, none⟩ = some (.slice (some ⟨p, 0, none⟩) N N)) (hh : h < N)
    (hrow : w.cell? ⟨p, h, none⟩ = some (.slice A L.length c)) (hsl : Sl w (fun i => n₀ ≤ i) 1 A L.length (icellsC L)) :
    SeqStopsK Fence.wide n Tryd.prog 42 #[.pointer (some ⟨Bh, 0, none⟩), .pointer (some ⟨Bl, 0, none⟩)] (fun x : { x : Int // x ∈ L } => #[Value.int .i64 x.1]) (Below n₀) (fun ys => ys.map (·.1) = L) (fun _ => True) L.length w :=
  seq_mem fun l J Jx W hW _hJ _ hY h1 =>
  enum1_in n hn l Bh Bl n₀ p N h A c L J Jx hN hL hY W ((hW.cell (p := ⟨Bh, 0, none⟩) hb1).trans hBh) ((hW.cell (p := ⟨Bl, 0, none⟩) hb2).trans hBl) hh ((hW.cell (p := ⟨p, h, none⟩) hp).trans hrow)
    (hsl.same (Keep.of_below hW)) h1
end Go.Proofs.YtnejacmmbfeneaaDoor

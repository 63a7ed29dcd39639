import Derived.Test.YtmllpapkgfclkaaTpM
import Derived.Test.YtmllpapkgfclkaaTpS
import Derived.Test.YtmllpapkgfclkaaScGn
import Derived.Deep.RegionHeld3
import Derived.RegionTactic
import Derived.BigQuiet
namespace Go.Proofs.Ytmllpapkgfclkaa
open Go.RowKit Go.Shelf

/-! ## search: its state -/
def distL (N : Nat) (D : Nat → Int) : List Value := (List.range N).map fun v => .int .i64 (D v)
theorem distL_at {N v : Nat} (D : Nat → Int) (h : v < N) : (distL N D)[v]? = some (.int .i64 (D v)) := by simp [distL, h]
theorem distL_len (N : Nat) (D : Nat → Int) : (distL N D).length = N := by simp [distL]
theorem distL_set {N t : Nat} (D : Nat → Int) (x : Int) (h : t < N) : (distL N D).set t (.int .i64 x) = distL N (upd D t x) := by
  apply List.ext_getElem?
  intro i
  rw [List.getElem?_set]
  rcases Nat.lt_or_ge i N with hi | hi
  · by_cases e : t = i
    · subst e
      rw [if_pos rfl, if_pos (by rw [distL_len]; exact h), distL_at _ hi, upd_at]
    · rw [if_neg e, distL_at D hi, distL_at _ hi, upd_ne (fun e2 => e e2.symm)]
  · have h1 : (distL N D)[i]? = none := List.getElem?_eq_none (by rw [distL_len]; exact hi)
    have h2 : (distL N (upd D t x))[i]? = none := List.getElem?_eq_none (by rw [distL_len]; exact hi)
    rw [h1, h2]
    by_cases e : t = i
    · omega
    · rw [if_neg e]
theorem distL_ext {N : Nat} {D E : Nat → Int} (h : ∀ v, v < N → D v = E v) : distL N D = distL N E := by
  unfold distL
  refine List.map_congr_left fun v hv => ?_
  rw [h v (List.mem_range.1 hv)]
theorem distL_const (N : Nat) (x : Int) : distL N (fun _ => x) = List.replicate N (.int .i64 x) := by
  rw [distL, List.map_const', List.length_range]
/-- The graph that search walks: along the edges, or against them. -/
def wgF (N : Nat) (l : List E3) (ws : List Int) : WG := ⟨N, l.length, fun i => ((l[i]?.map E3.a).getD 0).toNat, fun i => ((l[i]?.map E3.b).getD 0).toNat, fun i => ws[i]?.getD INF⟩
def wgB (N : Nat) (l : List E3) (ws : List Int) : WG := ⟨N, l.length, fun i => ((l[i]?.map E3.b).getD 0).toNat, fun i => ((l[i]?.map E3.a).getD 0).toNat, fun i => ws[i]?.getD INF⟩
structure SR (w W : World) (g s N : Nat) (wa : Option Addr) (wl wc : Nat) (fwd : Bool) (D : Nat → Int) (q : List Int) (A : Option Addr) (c : Nat) : Prop where
  b4 : Blk W s 26 #[.pointer (some ⟨g, 0, none⟩)]
  b5 : Blk W (s + 1) 35 #[.slice wa wl wc]
  b7 : Blk W (s + 2) 4 #[.bool fwd]
  row : Blk W (s + 3) 2 (distL N D).toArray
  b9 : Blk W (s + 4) 35 #[.slice (some ⟨s + 3, 0, none⟩) N N]
  qm : QM W (s + 5) (s + 6) A c q
  same : Same w W
  hs : w.heap.size = s
section
variable {w W W' : World} {g s N : Nat} {wa : Option Addr} {wl wc : Nat} {fwd : Bool} {D : Nat → Int} {q : List Int} {A : Option Addr} {c : Nat}
theorem SR.grownX {row : Option Nat} (h : SR w W g s N wa wl wc fwd D q A c) (hg : W.grownBy W' row) (hr : ∀ r, row = some r → ∃ o : Obj, W.heap[r]? = some o ∧ o.isCells = false) (hB : ∀ r, row = some r → w.heap.size ≤ r) : SR w W' g s N wa wl wc fwd D q A c :=
  ⟨h.b4.grownX hg hr, h.b5.grownX hg hr, h.b7.grownX hg hr, h.row.grownX hg hr, h.b9.grownX hg hr, ⟨h.qm.blk.grownX hg hr, Own.grownX h.qm.own hg hr, h.qm.bb, Nat.le_trans h.qm.top hg.size⟩, h.same.grown hg (fun r e hl => by have := hB r e; omega), h.hs⟩
theorem QM.more {w w' : World} {B base c : Nat} {A : Option Addr} {l : List Int} (h : QM w B base A c l) (hk : Same w w') : QM w' B base A c l := ⟨h.blk.keep hk (fun f => f), h.own.keepB hk (fun _ _ f => f), h.bb, Nat.le_trans h.top hk.size⟩
theorem SR.more (h : SR w W g s N wa wl wc fwd D q A c) (hk : Same W W') : SR w W' g s N wa wl wc fwd D q A c :=
  ⟨h.b4.keep hk (fun f => f), h.b5.keep hk (fun f => f), h.b7.keep hk (fun f => f), h.row.keep hk (fun f => f), h.b9.keep hk (fun f => f), h.qm.more hk, h.same.then hk, h.hs⟩
/-- A distance is set. -/
theorem SR.set (h : SR w W g s N wa wl wc fwd D q A c) {t : Nat} (ht : t < N) (x : Int) : SR w (W.setCell ⟨s + 3, t, none⟩ (.int .i64 x)) g s N wa wl wc fwd (upd D t x) q A c := by
  have hk : Keep (· = s + 3) W (W.setCell ⟨s + 3, t, none⟩ (.int .i64 x)) := (Keep.refl (· = s + 3) W).put _ _
  have hs := h.hs
  refine ⟨h.b4.keep hk (by omega), h.b5.keep hk (by omega), h.b7.keep hk (by omega), ?_, h.b9.keep hk (by omega), ⟨h.qm.blk.keep hk (by omega), h.qm.own.keepB hk (fun i hi e => by have e2 : i = s + 3 := e; have := h.qm.own.block i hi; omega), h.qm.bb, Nat.le_trans h.qm.top hk.size⟩, h.same.trans hk (fun i hi e => by have e2 : i = s + 3 := e; omega), h.hs⟩
  have := h.row.put t (.int .i64 x)
  rw [List.setIfInBounds_toArray, distL_set D x ht] at this
  exact this
/-- The queue has been turned. -/
theorem SR.turn (h : SR w W g s N wa wl wc fwd D q A c) {q' : List Int} {A' : Option Addr} {c' : Nat} (hk : Keep (QK (s + 5) A) W W') (hq : QM W' (s + 5) (s + 6) A' c' q') : SR w W' g s N wa wl wc fwd D q' A' c' := by
  have hb : ∀ i, QK (s + 5) A i → s + 5 ≤ i := fun i hi => by
    rcases hi with e | e
    · omega
    · have := h.qm.own.block i (by rw [← e]; cases A <;> rfl); omega
  have hs := h.hs
  have n : ∀ {i}, i < s + 5 → ¬ QK (s + 5) A i := fun hi hq => by have := hb _ hq; omega
  exact ⟨h.b4.keep hk (n (by omega)), h.b5.keep hk (n (by omega)), h.b7.keep hk (n (by omega)), h.row.keep hk (n (by omega)), h.b9.keep hk (n (by omega)), hq, h.same.trans hk (fun i hi e => by have := hb i e; omega), h.hs⟩
theorem SR.kf (h : SR w W g s N wa wl wc fwd D q A c) (hk : Keep (QK (s + 5) A) W W') (B : Nat) : KeepsFrom B W W' := KeepsFrom.of_keep B hk (fun k o hq ho => by
  rcases hq with rfl | e
  · exact h.qm.blk.cellsOf o ho
  · rcases h.qm.own.2 with ⟨e2, _⟩ | ⟨gg, cap, cur, e2, _, hh, _⟩
    · injection e2 with e2 _ _; subst e2; cases e
    · injection e2 with e2 _ _; subst e2
      injection e with e
      subst e
      exact Blk.cellsOf (t := 2) (cs := cur) hh o ho)
theorem SR.kp (h : SR w W g s N wa wl wc fwd D q A c) (hk : Keep (QK (s + 5) A) W W') : Keep (fun i => s ≤ i) W W' := hk.wide (fun i _ hi => by
  rcases hi with e | e
  · show s ≤ i
    omega
  · have := h.qm.own.block i (by rw [← e]; cases A <;> rfl)
    show s ≤ i
    omega)
end
/-- Ahead of the queue. -/
def DK (k : Nat) : Nat → Int := fun v => if v < k then INF else 0
theorem DK_step (k : Nat) : upd (DK k) k INF = DK (k + 1) := by
  funext v
  unfold upd DK
  by_cases e : v = k
  · subst e; simp
  · by_cases h : v < k
    · have : v < k + 1 := by omega
      simp [e, h, this]
    · have : ¬ v < k + 1 := by omega
      simp [e, h, this]
structure S0 (w W : World) (g s N : Nat) (wa : Option Addr) (wl wc : Nat) (fwd : Bool) (D : Nat → Int) : Prop where
  b4 : Blk W s 26 #[.pointer (some ⟨g, 0, none⟩)]
  b5 : Blk W (s + 1) 35 #[.slice wa wl wc]
  b7 : Blk W (s + 2) 4 #[.bool fwd]
  row : Blk W (s + 3) 2 (distL N D).toArray
  b9 : Blk W (s + 4) 35 #[.slice (some ⟨s + 3, 0, none⟩) N N]
  same : Same w W
  hs : w.heap.size = s
  sz : W.heap.size = s + 5
section
variable {w W : World} {g s N : Nat} {wa : Option Addr} {wl wc : Nat} {fwd : Bool} {D : Nat → Int}
theorem S0.set (h : S0 w W g s N wa wl wc fwd D) {t : Nat} (ht : t < N) (x : Int) : S0 w (W.setCell ⟨s + 3, t, none⟩ (.int .i64 x)) g s N wa wl wc fwd (upd D t x) := by
  have hk : Keep (· = s + 3) W (W.setCell ⟨s + 3, t, none⟩ (.int .i64 x)) := (Keep.refl (· = s + 3) W).put _ _
  have hs := h.hs
  refine ⟨h.b4.keep hk (by omega), h.b5.keep hk (by omega), h.b7.keep hk (by omega), ?_, h.b9.keep hk (by omega), h.same.trans hk (fun i hi e => by have e2 : i = s + 3 := e; omega), h.hs, by simp [World.setCell, h.sz]⟩
  have := h.row.put t (.int .i64 x)
  rw [List.setIfInBounds_toArray, distL_set D x ht] at this
  exact this
theorem S0.queue (h : S0 w W g s N wa wl wc fwd D) {D' : Nat → Int} (hD : ∀ v, v < N → D v = D' v) : SR w (W.alloc (.cells #[.slice none 0 0] 74)) g s N wa wl wc fwd D' [] none 0 := by
  have hk : Same W (W.alloc (.cells #[.slice none 0 0] 74)) := (Keep.refl _ W).alloc _
  have hb := Blk.made W 74 #[.slice none 0 0]
  rw [h.sz] at hb
  exact ⟨h.b4.keep hk (fun f => f), h.b5.keep hk (fun f => f), h.b7.keep hk (fun f => f), by rw [← distL_ext hD]; exact h.row.keep hk (fun f => f), h.b9.keep hk (fun f => f), ⟨hb, Own.nil _ _ _ _, by omega, by rw [World.size_alloc, h.sz]; exact Nat.le_refl _⟩, h.same.then hk, h.hs⟩
theorem S0.start (w : World) (g N : Nat) (wa : Option Addr) (wl wc : Nat) (fwd : Bool) : S0 w (((((w.alloc (.cells #[.pointer (some ⟨g, 0, none⟩)] 26)).alloc (.cells #[.slice wa wl wc] 35)).alloc (.cells #[.bool fwd] 4)).alloc (.cells (madeCells #[.int .i64 0] N) 2)).alloc (.cells #[.slice (some ⟨w.heap.size + 1 + 1 + 1, 0, none⟩) N N] 35)) g w.heap.size N wa wl wc fwd (DK 0) := by
  have e : (madeCells #[.int .i64 0] N) = (distL N (DK 0)).toArray := by
    rw [← Array.toList_inj, toList_madeCells_one, show DK 0 = fun _ => (0 : Int) from by funext v; simp [DK], distL_const]
  rw [e]
  obtain ⟨W1, h1⟩ : ∃ W, W = w.alloc (.cells #[.pointer (some ⟨g, 0, none⟩)] 26) := ⟨_, rfl⟩
  rw [← h1]
  have z1 : W1.heap.size = w.heap.size + 1 := by rw [h1]; exact World.size_alloc _ _
  have q1 : Blk W1 w.heap.size 26 #[.pointer (some ⟨g, 0, none⟩)] := by rw [h1]; exact Blk.made _ _ _
  have k1 : Same w W1 := by rw [h1]; exact (Keep.refl _ w).alloc _
  clear h1
  obtain ⟨W2, h2⟩ : ∃ W, W = W1.alloc (.cells #[.slice wa wl wc] 35) := ⟨_, rfl⟩
  rw [← h2]
  have z2 : W2.heap.size = w.heap.size + 2 := by rw [h2, World.size_alloc, z1]
  have q2 : Blk W2 (w.heap.size + 1) 35 #[.slice wa wl wc] := by rw [h2, ← z1]; exact Blk.made _ _ _
  have k2 : Same W1 W2 := by rw [h2]; exact (Keep.refl _ W1).alloc _
  clear h2
  obtain ⟨W3, h3⟩ : ∃ W, W = W2.alloc (.cells #[.bool fwd] 4) := ⟨_, rfl⟩
  rw [← h3]
  have z3 : W3.heap.size = w.heap.size + 3 := by rw [h3, World.size_alloc, z2]
  have q3 : Blk W3 (w.heap.size + 2) 4 #[.bool fwd] := by rw [h3, ← z2]; exact Blk.made _ _ _
  have k3 : Same W2 W3 := by rw [h3]; exact (Keep.refl _ W2).alloc _
  clear h3
  obtain ⟨W4, h4⟩ : ∃ W, W = W3.alloc (.cells (distL N (DK 0)).toArray 2) := ⟨_, rfl⟩
  rw [← h4]
  have z4 : W4.heap.size = w.heap.size + 4 := by rw [h4, World.size_alloc, z3]
  have q4 : Blk W4 (w.heap.size + 3) 2 (distL N (DK 0)).toArray := by rw [h4, ← z3]; exact Blk.made _ _ _
  have k4 : Same W3 W4 := by rw [h4]; exact (Keep.refl _ W3).alloc _
  clear h4
  have q5 : Blk (W4.alloc (.cells #[.slice (some ⟨w.heap.size + 1 + 1 + 1, 0, none⟩) N N] 35)) (w.heap.size + 4) 35 #[.slice (some ⟨w.heap.size + 3, 0, none⟩) N N] := by rw [← z4]; exact Blk.made _ _ _
  have k5 : Same W4 (W4.alloc (.cells #[.slice (some ⟨w.heap.size + 1 + 1 + 1, 0, none⟩) N N] 35)) := (Keep.refl _ W4).alloc _
  exact ⟨((((q1.keep k2 (fun f => f)).keep k3 (fun f => f)).keep k4 (fun f => f)).keep k5 (fun f => f)), (((q2.keep k3 (fun f => f)).keep k4 (fun f => f)).keep k5 (fun f => f)), ((q3.keep k4 (fun f => f)).keep k5 (fun f => f)), q4.keep k5 (fun f => f), q5, ((((k1.then k2).then k3).then k4).then k5), rfl, by rw [World.size_alloc, z4]⟩
end
theorem bnd_small {G : WG} {W : Int} {N : Nat} (h : G.Ok W) (hn : G.N = N) (hN : N ≤ 8) (hW : W ≤ 17179869184) : bndB G W ≤ 1125899906842624 ∧ N * (bndB G W).toNat ≤ 8796093022207 := by
  unfold bndB
  rw [hn]
  have h1 := h.W1
  have h2 : W * (N : Int) ≤ 17179869184 * 8 := Int.mul_le_mul hW (by omega) (by omega) (by omega)
  refine ⟨by omega, ?_⟩
  have h3 : (W * (N : Int) + 1).toNat ≤ 137438953473 := by omega
  have := Nat.mul_le_mul hN h3
  omega
theorem frame_fn {T : Array Value} {f : (Nat → Value) → Array Value} {d : List Deferred} (h : T = f (fun i => T.getD i undef)) : ∃ U : Nat → Value, ({ tmps := T, defers := d } : Act) = { tmps := f U, defers := d } := ⟨_, by rw [← h]⟩
theorem St.of_same {s B : Nat} {W W' : World} (h : Same W W') : St s B W W' := ⟨KeepsFrom.of_keep B h (fun _ _ f => f.elim), h.wide (fun _ _ f => f.elim)⟩
theorem Mid.sub {G : WG} {W : Int} {s : Nat} {D : Nat → Int} {q : List Int} {u : Nat} {x : Int} {P P' : Nat → Prop} (h : Mid G W s D q u x P) (hP : ∀ i, P' i → P i) : Mid G W s D q u x P' :=
  ⟨h.que, h.uN, h.du, h.fin, h.rel, fun i hi => h.par i (hP i hi)⟩
/-- Between two edges of a node. -/
def I3 (w : World) (g s N : Nat) (wa : Option Addr) (wl wc : Nat) (fwd : Bool) (G : WG) (Wm : Int) (s0 u : Nat) (d : Int) (z m0 : Nat) (ds : List Nat) {R : List Int} (pre : List { x : Int // x ∈ R }) (W : World) : Prop :=
  ∃ D q A c, SR w W g s N wa wl wc fwd D q A c ∧ Mid G Wm s0 D q u d (fun i => (i : Int) ∈ pre.map (·.1)) ∧ Marks W ds ∧ Blk W z 2 #[.int .i64 d] ∧ (∀ i, A.map (·.block) = some i → i ≠ z) ∧ meas G Wm D q ≤ m0
/-! ## Regions that only read, within a round of a range over a function -/
section
variable {P : Program} {ops : Array Oper} {md : Region.Mode} {C : World → Prop} {n lr : Nat}
def noDefer (l : List Oper) : Bool := l.all fun o => match o.op with | .defer _ => false | _ => true
theorem noDefer_spec {l : List Oper} (h : noDefer l = true) (i : Nat) (o : Oper) (ho : l.toArray[i]? = some o) : ∀ c : Call, o.op ≠ .defer c := by
  intro c hc
  have hm : o ∈ l := List.mem_of_getElem? (by simpa using ho)
  have := (List.all_eq_true.1 h) o hm
  rw [hc] at this
  cases this
theorem wpOpR_of_qOp (hnd : ∀ (i : Nat) (o : Oper), ops[i]? = some o → ∀ c : Call, o.op ≠ .defer c) {i : Nat} {a : Act} {K : Act → Prop} {K' : Act → World → Prop} {Q' : Exit → Act → World → Prop} {w : World} (hC : C w) (h : ∀ a w', C w' → K a → K' a w') (hh : qOp P ops C i K a) : wpOpIn (Fence.wide.inRound lr) n P ops Q' i K' a w := by
  unfold qOp at hh
  unfold wpOpIn
  split
  · rename_i ho; simp only [ho] at hh; exact h _ _ hC hh
  · rename_i o ho
    simp only [ho] at hh
    split
    · rename_i hw
      simp only [hw, if_true] at hh
      obtain ⟨v, h1, h2⟩ := hh
      have h3 := h1 w hC
      unfold Oper.quietAt at h3
      refine ⟨fun _ _ => trivial, ?_⟩
      rw [Oper.semAt_plain _ _ _ (hnd i o ho)]
      generalize (execOp a.eval o).run P w = r at *
      cases r with
      | ok x w' =>
        cases x <;> simp only [Oper.quietUpon] at h3 <;> simp only [Oper.uponIn]
        case value u =>
          obtain ⟨e1, e2⟩ := h3
          rw [e1, e2]
          exact h _ _ hC h2
        case skip =>
          obtain ⟨e1, e2⟩ := h3
          rw [e1, ← e2]
          exact h _ _ hC h2
        case enter f args =>
          obtain ⟨e1, hc⟩ := h3
          rw [e1]
          refine ⟨(fun hd => by cases hd), CallsIn.inRound lr (callsIn_wide.2 (hc.mono fun e w'' ⟨he, hw''⟩ => by subst he; exact h _ _ hw'' h2))⟩
      | halt x w' => simp only [Oper.quietUpon] at h3
    · rename_i hw
      simp only [hw] at hh
      exact ⟨fun _ _ => trivial, h _ _ hC hh⟩
theorem wpAnyR_of_quiet (hnd : ∀ (i : Nat) (o : Oper), ops[i]? = some o → ∀ c : Call, o.op ≠ .defer c) {Q : Act → Prop} {Q' : Exit → Act → World → Prop} (hQ : ∀ a w, C w → Q a → Q' .normal a w) : ∀ (fuel : Nat) (listed : Array Bool) (a : Act) (w : World), C w →
    wpAnyQ P md ops C Q fuel listed a → wpAnyIn (Fence.wide.inRound lr) n P md ops Q' fuel listed a w
  | 0, _, _, _, hw, h => ⟨h.1, hQ _ _ hw h.2⟩
  | fuel + 1, _, _, _, hw, h => ⟨fun h0 => hQ _ _ hw (h.1 h0), fun i hi => wpOpR_of_qOp hnd hw (fun a' w' hw' => wpAnyR_of_quiet hnd hQ fuel _ a' w' hw') (h.2 i hi)⟩
theorem RowsR {row : String} {args : Array Value} {w : World} {R : Value → World → Prop} (h : Rows P row args w R) : RowsIn (Fence.wide.inRound lr) n P row args w R :=
  fun c cs _ => let ⟨v, w', r, s⟩ := h c cs; ⟨v, w', r, stepsIn_wide.2 s⟩
theorem wpOpR_of_wpOp (hnd : ∀ (i : Nat) (o : Oper), ops[i]? = some o → ∀ c : Call, o.op ≠ .defer c) {i : Nat} {a : Act} {w : World} {K K' : Act → World → Prop} {Q : Exit → Act → World → Prop} (hQ : ¬ LetsOut Q) (h : ∀ a w, K a w → K' a w) (hh : wpOp P ops Q i K a w) : wpOpIn (Fence.wide.inRound lr) n P ops Q i K' a w := by
  unfold wpOp at hh
  unfold wpOpIn
  split
  · rename_i ho; simp only [ho] at hh; exact h _ _ hh
  · rename_i o ho
    simp only [ho] at hh
    split
    · rename_i hw
      simp only [hw, if_true] at hh
      rcases hh with hh | ⟨_, hh⟩
      · refine ⟨fun _ _ => trivial, ?_⟩
        rw [Oper.semAt_plain _ _ _ (hnd i o ho)]
        unfold Oper.wp at hh
        generalize (execOp a.eval o).run P w = r at *
        cases r with
        | ok x w' =>
          cases x <;> simp only [Oper.upon] at hh <;> simp only [Oper.uponIn]
          case value u => exact h _ _ hh
          case skip => exact h _ _ hh
          case defer u => exact h _ _ hh
          case enter f args =>
            exact ⟨(fun hd => by cases hd), CallsIn.inRound lr (callsIn_wide.2 (hh.mono fun e w'' he => by cases e <;> first | exact h _ _ he | exact he))⟩
          case row r args => exact ⟨(fun hd => by cases hd), RowsR (hh.mono fun _ _ he => h _ _ he)⟩
        | halt x w' => cases x <;> simp only [Oper.upon] at hh <;> simp only [Oper.uponIn] <;> exact hh
      · exact absurd hh hQ
    · rename_i hw
      simp only [hw] at hh
      exact ⟨fun _ _ => trivial, h _ _ hh⟩
theorem wpAnyR_of_any (hnd : ∀ (i : Nat) (o : Oper), ops[i]? = some o → ∀ c : Call, o.op ≠ .defer c) {Q : Exit → Act → World → Prop} (hQ : ¬ LetsOut Q) : ∀ (fuel : Nat) (listed : Array Bool) (a : Act) (w : World),
    wpAny P md ops Q fuel listed a w → wpAnyIn (Fence.wide.inRound lr) n P md ops Q fuel listed a w
  | 0, _, _, _, h => h
  | fuel + 1, _, _, _, h => ⟨h.1, fun i hi => wpOpR_of_wpOp hnd hQ (fun a' w' => wpAnyR_of_any hnd hQ fuel _ a' w') (h.2 i hi)⟩
def noOut (Q : Exit → Act → World → Prop) : Exit → Act → World → Prop
  | .normal, a, w => Q .normal a w
  | _, _, _ => False
theorem noOut_normal {Q : Exit → Act → World → Prop} {a : Act} {w : World} (h : Q .normal a w) : noOut Q .normal a w := h
theorem wpIn_region_held_round {S : World → Prop} {id : Nat} {Q : Exit → Act → World → Prop} {a : Act} {w : World} {l : List Oper} (hm : P.follows .mixedOrders = true) (hnd : noDefer l = true) (hS : S w.drew)
    (h : S w.drew → wpAnyH P .any l.toArray (noOut Q) S l.toArray.size (Array.replicate l.toArray.size false) a w.drew) : (Code.region id l.toArray true).wpIn (Fence.wide.inRound lr) n P Q a w :=
  wpIn_mono (wpIn_region_any hm (wpAnyR_of_any (noDefer_spec hnd) (fun ⟨_, _, h⟩ => h.elim) _ _ _ _ (wpAny_of_held _ _ _ _ (h hS)))) (fun e _ _ hq => by cases e <;> first | exact hq | exact hq.elim)
theorem wpIn_region_quiet_round {id : Nat} {Q : Exit → Act → World → Prop} {a : Act} {w : World} {l : List Oper} (hm : P.follows .mixedOrders = true) (hB : Region.lexB .any l.toArray = true) (hnd : noDefer l = true)
    (h : wpQuiet P l.toArray (fun w' => ∃ n, w' = w.drewN n) (fun a' => ∀ w', (∃ n, w' = w.drewN n) → Q .normal a' w') l a) : (Code.region id l.toArray true).wpIn (Fence.wide.inRound lr) n P Q a w := by
  simp only [Region.lexB, Bool.and_eq_true] at hB
  refine wpIn_region_any hm (wpAnyR_of_quiet (C := fun w' => ∃ n, w' = w.drewN n) (Q := fun a' => ∀ w', (∃ n, w' = w.drewN n) → Q .normal a' w') (noDefer_spec hnd) (fun _ w' hw' h => h w' hw') _ _ _ _ ⟨1, rfl⟩ ?_)
  have := wpAnyQ_lex (C := fun w' => ∃ n, w' = w.drewN n) (md := .any) hB.1 l 0 (Array.replicate l.toArray.size false) a (by simp) (by simpa using hB.2) h
  simpa using this
end
theorem EI64 : Elem Try.prog 35 2 1 8 (.int .i64 0) := ⟨Try.underlying35, by kernel_rfl, rfl, by decide⟩
theorem results_cell_tmp {P : Program} {fn : Func} {p q : Tmp} {ty : TypeId} (h : fn.results = #[.cell p ty, .tmp q]) (tmps : Array Value) (w : World) (g : Nat) (t : TypeId) (cs : Array Value) (fr : Nat × Nat) (d : TypeDesc) (v : Value)
    (hp : tmps.getD p undef = .pointer (some ⟨g, 0, none⟩)) (hq : tmps.getD q undef = v) (hg : w.heap[g]? = some (.cells cs t fr))
    (hu : P.underlying ty = some d) (hd : (match d with | .struct _ | .array _ _ => true | _ => false) = true) (hi : (P.info? ty).map (·.size) = some cs.size) :
    (results fn tmps).run P w = .ok (.tuple #[.agg cs, v]) w := by
  have hp' : tmps[p]?.getD undef = .pointer (some ⟨g, 0, none⟩) := by simpa using hp
  have hq' : tmps[q]?.getD undef = v := by simpa using hq
  simp [results, h, hp', hq', asAddr, run_loadVar_row w g t ty cs fr d hg hu hd hi]
/-! ## Small functions -/
theorem e3_one3 (a b c : Int) : (#[Value.int .i64 a, .int .i64 b, .int .i64 c]).all (·.oneCell') = true := by simp [Value.oneCell']
theorem inE_any (w : World) (g N : Nat) (l : List E3) (E : Option Addr) (cE po pi : Nat) (hG : IsG w g N l E cE po pi) (h : Int) :
    Calls Try.prog 32 #[.pointer (some ⟨g, 0, none⟩), .int .i64 h] w fun e w' => e = .returned (.func (.func 38) #[] #[.pointer (some ⟨w.heap.size + 1, 0, none⟩), .pointer (some ⟨w.heap.size, 0, none⟩)]) ∧ (w.alloc (.cells #[.slice (some ⟨pi, 0, none⟩) N N] 70)).alloc (.cells #[.int .i64 h] 3) = w' := by
  have c0 : w.cell? ⟨g, 0, none⟩ = some (.slice E l.length cE) := (hG.hdr.at_ 0).trans rfl
  have c1 : w.cell? ⟨g, 2, none⟩ = some (.slice (some ⟨pi, 0, none⟩) N N) := (hG.hdr.at_ 2).trans rfl
  clear hG
  go_enter Try.func32, Try.ntmps32
  go_wp2_with (go_at_call 34; (with_reducible refine (enumerate_any _ _ _ _ _).mono ?_); rintro e w' ⟨rfl, rfl⟩)
  go_ret
  exact ⟨rfl, rfl⟩
theorem isNode_any (w : World) (g N : Nat) (l : List E3) (E : Option Addr) (cE po pi : Nat) (hG : IsG w g N l E cE po pi) (hN : N ≤ 4096) (h : Int) (h0 : 0 ≤ h) (h1 : h < N) :
    Calls Try.prog 24 #[.pointer (some ⟨g, 0, none⟩), .int .i64 h] w fun e w' => e = .returned (.bool true) ∧ w = w' := by
  have HG := hid hG
  clear hG
  go_enter Try.func24, Try.ntmps24
  go_wp2_with (go_at_call 30; (with_reducible refine (nodes_any _ g N l E cE po pi HG.out hN).mono ?_); rintro e w' ⟨rfl, rfl⟩)
  go_ret
  exact ⟨by simp, rfl⟩
set_option maxRecDepth 100000 in
theorem edge_any (w : World) (g N : Nat) (l : List E3) (E : Option Addr) (cE po pi : Nat) (hG : IsG w g N l E cE po pi) (_hl : l.length ≤ 16384) (i : Nat) (e0 : E3) (he : l[i]? = some e0) :
    Calls Try.prog 26 #[.pointer (some ⟨g, 0, none⟩), .int .i64 i] w fun e w' => e = .returned (.tuple #[.agg #[.int .i64 e0.a, .int .i64 e0.b, .int .i64 e0.c], .bool true]) ∧ Same w w' := by
  obtain ⟨b1, o1, rfl, hb1, x0, x1, x2⟩ := e3_at hG.edg he
  have hi := (List.getElem?_eq_some_iff.1 he).1
  have c0 : w.cell? ⟨g, 0, none⟩ = some (.slice (some ⟨b1, o1, none⟩) l.length cE) := (hG.hdr.at_ 0).trans rfl
  have hi0 : (0 : Int) ≤ (i : Int) := Int.natCast_nonneg _
  have hi1 : (i : Int) < (l.length : Int) := by omega
  have hz := Blk.made w 49 #[.int .i64 0, .int .i64 0, .int .i64 0]
  have HK := hid ((Keep.refl (fun _ => False) w).alloc (.cells #[.int .i64 0, .int .i64 0, .int .i64 0] 49))
  have HG := hid hG
  clear hG he
  go_enter Try.func26, Try.ntmps26
  go_upto_region 1 with fail
  obtain ⟨W1, hW⟩ : ∃ W, W = w.alloc (.cells #[.int .i64 0, .int .i64 0, .int .i64 0] 49) := ⟨_, rfl⟩
  rw [← hW] at hz HK ⊢
  have c0' : W1.cell? ⟨g, 0, none⟩ = some (.slice (some ⟨b1, o1, none⟩) l.length cE) := (HK.out.cell (range_lt c0) (fun f => f)).trans c0
  have x0' : W1.cell? ⟨b1, o1 + i * 3, none⟩ = some (.int .i64 e0.a) := (HK.out.cell (range_lt x0) (fun f => f)).trans x0
  have x1' : W1.cell? ⟨b1, o1 + i * 3 + 1, none⟩ = some (.int .i64 e0.b) := (HK.out.cell (range_lt x1) (fun f => f)).trans x1
  have x2' : W1.cell? ⟨b1, o1 + i * 3 + 2, none⟩ = some (.int .i64 e0.c) := (HK.out.cell (range_lt x2) (fun f => f)).trans x2
  have hd0 : decide ((i : Int) < 0) = false := decide_eq_false (by omega)
  clear hW c0 x0 x1 x2
  have HZ := hid hz
  clear hz
  go_wp2_with (refine wpList_store_row rfl _ (.tmp 4) (.tmp 24) rfl w.heap.size #[.int .i64 e0.a, .int .i64 e0.b, .int .i64 e0.c] rfl rfl _ _ HZ.out (by kernel_rfl) rfl (e3_one3 _ _ _) ?_)
  have HRES := hid (HZ.out.row #[.int .i64 e0.a, .int .i64 e0.b, .int .i64 e0.c])
  refine bodyPost_ret (results_cell_tmp rfl _ _ w.heap.size 49 #[.int .i64 e0.a, .int .i64 e0.b, .int .i64 e0.c] (0, 0) _ (.bool true) rfl rfl HRES.out Try.underlying49 rfl (by kernel_rfl)) rfl ?_
  exact ⟨rfl, HK.out.trans (Keep.row _ _ _) (fun i hi e => by have e2 : i = w.heap.size := e; omega)⟩
end Go.Proofs.Ytmllpapkgfclkaa

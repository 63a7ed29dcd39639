import Derived.Test.YtmllpapkgfclkaaScG
import Derived.RangeFuncNested
import Derived.RangeFuncBox
import Derived.RangeFuncBound
import Derived.RangeFuncCalls
import Derived.RangeFuncLeaves
import Derived.Shelf.Abstract
import Derived.Shelf.RegionOpen
import Derived.WalkKit
import Derived.OwnWalkIn
import Derived.TacticsInMore
import Derived.LoopNIn
import Derived.LoopIn
import Derived.Maps.AppendAt
namespace Go.Proofs.Ytmllpapkgfclkaa
open Go.RowKit Go.Shelf

attribute [local go_sem] Oper.semAt_some

/-! ## What abides a turn of blocks that are no cells; marks -/
section
variable {W W' : World} {row : Option Nat}
theorem Blk.grownX {g : Nat} {t : TypeId} {cs : Array Value} (h : Blk W g t cs) (hg : W.grownBy W' row) (hr : ∀ r, row = some r → ∃ o : Obj, W.heap[r]? = some o ∧ o.isCells = false) : Blk W' g t cs :=
  (hg.block g h.lt (fun e => by
    obtain ⟨o, ho, hc⟩ := hr g e.symm
    rw [h] at ho; cases ho; cases hc)).trans h
theorem Own.grownX {base : Nat} {e : TypeId} {size : Nat} {v : Value} {n : Nat} {xs : List Value} (h : Own W base e size v n xs) (hg : W.grownBy W' row) (hr : ∀ r, row = some r → ∃ o : Obj, W.heap[r]? = some o ∧ o.isCells = false) : Own W' base e size v n xs := by
  refine ⟨h.1, ?_⟩
  rcases h.2 with h2 | ⟨g, cap, cur, rfl, hb, hh, r⟩
  · exact .inl h2
  · exact .inr ⟨g, cap, cur, rfl, hb, Blk.grownX (t := e) (cs := cur) hh hg hr, r⟩
theorem KeepsFrom.of_keep {S : Nat → Prop} (B : Nat) (h : Keep S W W') (hS : ∀ k o, S k → W.heap[k]? = some o → o.isCells = true) : KeepsFrom B W W' :=
  ⟨h.size, fun k o _ hk ho => (h.block k (Array.getElem?_eq_some_iff.1 hk).1 (fun hs => by rw [hS k o hs hk] at ho; cases ho)).trans hk⟩
theorem Blk.cellsOf {g : Nat} {t : TypeId} {cs : Array Value} (h : Blk W g t cs) : ∀ o, W.heap[g]? = some o → o.isCells = true := fun o ho => by
  rw [h] at ho; cases ho; rfl
theorem Keep.of_belowN {n₀ : Nat} (h : Below n₀ W W') : Keep (fun i => n₀ ≤ i) W W' := ⟨h.os, h.tape, h.output, h.size, fun k _ hn => h.block k (by omega)⟩
theorem Keep.to_below {S : Nat → Prop} {n₀ : Nat} (h : Keep S W W') (hS : ∀ i, S i → n₀ ≤ i) (hn : n₀ ≤ W.heap.size) : Below n₀ W W' := ⟨h.os, h.tape, h.output, h.size, fun k hk => h.block k (by omega) (fun hs => by have := hS k hs; omega)⟩
end
/-- The blocks of the marks that a function has laid. -/
def Marks (W : World) (ds : List Nat) : Prop := ds.Nodup ∧ ∀ D ∈ ds, W.heap[D]? = some (.deferred (some []))
theorem Marks.keep {S : Nat → Prop} {W W' : World} {ds : List Nat} (h : Marks W ds) (hk : Keep S W W') (hS : ∀ k o, S k → W.heap[k]? = some o → o.isCells = true) : Marks W' ds :=
  ⟨h.1, fun D hD => (KeepsFrom.of_keep 0 hk hS).same D _ (Nat.zero_le _) (h.2 D hD) rfl⟩
theorem Marks.from {W W' : World} {ds : List Nat} {B : Nat} (h : Marks W ds) (hk : Below B W W') (hB : ∀ D ∈ ds, D < B) : Marks W' ds :=
  ⟨h.1, fun D hD => (hk.block D (hB D hD)).trans (h.2 D hD)⟩
theorem Marks.lt {W : World} {ds : List Nat} (h : Marks W ds) : ∀ D ∈ ds, D < W.heap.size := fun D hD => (Array.getElem?_eq_some_iff.1 (h.2 D hD)).1
theorem Marks.cons {W : World} {ds : List Nat} {D : Nat} (h : Marks W ds) (hD : W.heap[D]? = some (.deferred (some []))) (hn : D ∉ ds) : Marks W (D :: ds) :=
  ⟨List.nodup_cons.2 ⟨hn, h.1⟩, fun E hE => by
    rcases List.mem_cons.1 hE with rfl | hE
    · exact hD
    · exact h.2 E hE⟩
def markD (D : Nat) : Deferred := { target := .collected D, args := #[] }
/-- A function returns: its marks are taken over, then the result is read. -/
theorem leaves_marks {F : Fence} {n : Nat} {P : Program} {fn : Func} {tmps : Array Value} {R : Ending → World → Prop} : ∀ (ds : List Nat) (W : World), Marks W ds →
    (∀ W', Keep (fun i => i ∈ ds) W W' → ∃ v, (results fn tmps).run P W' = .ok v W' ∧ R (.returned v) W') → LeavesInM F n P fn tmps R (ds.map markD) .returning W
  | [], W, _, h => h W (Keep.refl _ _)
  | D :: ds, W, hm, h => by
    have hl := hm.lt D (List.mem_cons_self ..)
    have hk : Keep (fun i => i = D) W (W.putObj D (.deferred none)) := ⟨rfl, rfl, rfl, by simp, fun k _ hk => World.putObj_heap_other (fun e => hk (by omega))⟩
    refine ⟨by simp, .inl ⟨D, _, rfl, run_takeDeferred (hm.2 D (List.mem_cons_self ..)), leaves_marks ds _ ⟨(List.nodup_cons.1 hm.1).2, fun E hE => ?_⟩ (fun W' hk' => h W' ?_)⟩⟩
    · have hne : E ≠ D := fun e => (List.nodup_cons.1 hm.1).1 (e ▸ hE)
      exact (World.putObj_heap_other (fun e => hne (by omega))).trans (hm.2 E (List.mem_cons_of_mem _ hE))
    · exact (hk.wide (fun i _ e => by rw [e]; exact List.mem_cons_self ..)).trans hk' (fun i _ e => List.mem_cons_of_mem _ e)

/-! ## Iterators over the members of a list -/
theorem seq_mem {F : Fence} {n : Nat} {P : Program} {g : Nat} {lb : Array Value} {Kp : World → World → Prop} {L : List Int} {N : Nat} {w : World}
    (H : ∀ (l : Nat) (J Jx : List Int → World → Prop) (W : World), Below w.heap.size w W → AbidesFrom W.heap.size J → AbidesFrom W.heap.size Jx →
      (∀ pre x W1, J pre W1 → pre.length < N → x ∈ L → YieldAt F (n - 1) P l #[.int .i64 x] W1 fun e W' => (e = .returned (.bool true) ∧ J (pre ++ [x]) W' ∧ Kp W1 W') ∨ (e = .returned (.bool false) ∧ Jx (pre ++ [x]) W')) →
      J [] W → CallsIn F n P g (#[.func (.yield l) #[] #[]] ++ lb) W fun e W' => (∃ v, e = .returned v) ∧ ((∃ ys, ys = L ∧ J ys W') ∨ (∃ pre, pre <+: L ∧ Jx pre W'))) :
    SeqStopsK F n P g lb (fun x : { x : Int // x ∈ L } => #[Value.int .i64 x.1]) Kp (fun ys => ys.map (·.1) = L) (fun _ => True) N w := by
  intro l J Jx W hW hJ hJx hY h0
  refine (H l (fun pre W => ∃ p : List { x : Int // x ∈ L }, p.map (·.1) = pre ∧ J p W) (fun pre W => ∃ p : List { x : Int // x ∈ L }, p.map (·.1) = pre ∧ Jx p W) W hW
    (fun s A B row hs hg hr => by
      obtain ⟨p, e, h⟩ := hs
      exact ⟨p, e, hJ p A B row h hg hr⟩)
    (fun s A B row hs hg hr => by
      obtain ⟨p, e, h⟩ := hs
      exact ⟨p, e, hJx p A B row h hg hr⟩)
    (fun pre x W1 hj hlen hx => by
      obtain ⟨p, rfl, hj⟩ := hj
      refine (hY p ⟨x, hx⟩ W1 hj (by simpa using hlen)).mono ?_
      rintro e W' (⟨he, h1, h2⟩ | ⟨he, h1⟩)
      · exact .inl ⟨he, ⟨_, by simp, h1⟩, h2⟩
      · exact .inr ⟨he, ⟨_, by simp, h1⟩⟩) ⟨[], rfl, h0⟩).mono ?_
  rintro e W' ⟨hv, (⟨ys, rfl, p, hp, h1⟩ | ⟨pre, _, p, _, h1⟩)⟩
  · exact ⟨hv, .inl ⟨p, hp, h1⟩⟩
  · exact ⟨hv, .inr ⟨p, trivial, h1⟩⟩
/-! ## The graph's small functions -/
theorem nodes_any (w : World) (g N : Nat) (l : List E3) (E : Option Addr) (cE po pi : Nat) (hG : IsG w g N l E cE po pi) (_hN : N ≤ 4096) :
    Calls Try.prog 30 #[.pointer (some ⟨g, 0, none⟩)] w fun e w' => e = .returned (.int .i64 N) ∧ w = w' := by
  have c0 : w.cell? ⟨g, 0, none⟩ = some (.slice E l.length cE) := (hG.hdr.at_ 0).trans rfl
  have c1 : w.cell? ⟨g, 1, none⟩ = some (.slice (some ⟨po, 0, none⟩) N N) := (hG.hdr.at_ 1).trans rfl
  clear hG
  go_enter Try.func30, Try.ntmps30
  go_wp2
  go_ret
  exact ⟨rfl, rfl⟩
theorem enumerate_any (w : World) (X : Option Addr) (m c : Nat) (h : Int) :
    Calls Try.prog 34 #[.slice X m c, .int .i64 h] w fun e w' => e = .returned (.func (.func 38) #[] #[.pointer (some ⟨w.heap.size + 1, 0, none⟩), .pointer (some ⟨w.heap.size, 0, none⟩)]) ∧ (w.alloc (.cells #[.slice X m c] 70)).alloc (.cells #[.int .i64 h] 3) = w' := by
  go_enter Try.func34, Try.ntmps34
  go_wp2
  go_ret
  exact ⟨rfl, rfl⟩
theorem outE_any (w : World) (g N : Nat) (l : List E3) (E : Option Addr) (cE po pi : Nat) (hG : IsG w g N l E cE po pi) (h : Int) :
    Calls Try.prog 25 #[.pointer (some ⟨g, 0, none⟩), .int .i64 h] w fun e w' => e = .returned (.func (.func 38) #[] #[.pointer (some ⟨w.heap.size + 1, 0, none⟩), .pointer (some ⟨w.heap.size, 0, none⟩)]) ∧ (w.alloc (.cells #[.slice (some ⟨po, 0, none⟩) N N] 70)).alloc (.cells #[.int .i64 h] 3) = w' := by
  have c0 : w.cell? ⟨g, 0, none⟩ = some (.slice E l.length cE) := (hG.hdr.at_ 0).trans rfl
  have c1 : w.cell? ⟨g, 1, none⟩ = some (.slice (some ⟨po, 0, none⟩) N N) := (hG.hdr.at_ 1).trans rfl
  clear hG
  go_enter Try.func25, Try.ntmps25
  go_wp2_with (go_at_call 34; (with_reducible refine (enumerate_any _ _ _ _ _).mono ?_); rintro e w' ⟨rfl, rfl⟩)
  go_ret
  exact ⟨rfl, rfl⟩

set_option maxRecDepth 100000 in
set_option maxHeartbeats 4000000 in
/-- The edges of a node's row, one behind the other. -/
theorem enum1_in (n : Nat) (hn : 1 ≤ n) (l Bh Bl n₀ p N h : Nat) (A : Option Addr) (c : Nat) (L : List Int) (J Jx : List Int → World → Prop) (_hN : N ≤ 4096) (hL : L.length ≤ 16384)
    (hY : ∀ pre x W, J pre W → pre.length < L.length → x ∈ L → YieldAt Fence.wide (n - 1) Try.prog l #[.int .i64 x] W fun e W' =>
      (e = .returned (.bool true) ∧ J (pre ++ [x]) W' ∧ Below n₀ W W') ∨ (e = .returned (.bool false) ∧ Jx (pre ++ [x]) W'))
    (W : World) (hBh : W.cell? ⟨Bh, 0, none⟩ = some (.int .i64 (h : Int))) (hBl : W.cell? ⟨Bl, 0, none⟩ = some (.slice (some ⟨p, 0, none⟩) N N)) (hh : h < N)
    (hrow : W.cell? ⟨p, h, none⟩ = some (.slice A L.length c)) (hsl : Sl W (fun i => n₀ ≤ i) 1 A L.length (icellsC L)) (hJ : J [] W) :
    CallsIn Fence.wide n Try.prog 38 #[.func (.yield l) #[] #[], .pointer (some ⟨Bh, 0, none⟩), .pointer (some ⟨Bl, 0, none⟩)] W fun e W' => (∃ v, e = .returned v) ∧
      ((∃ ys, ys = L ∧ J ys W') ∨ (∃ pre, pre <+: L ∧ Jx pre W')) := by
  refine callsIn_of_wp Try.func38 rfl trivial ?_ rfl
  simp only [Try.ntmps38, List.size_toArray, List.length_cons, List.length_nil, Nat.reduceAdd, Nat.reduceSub, Array.replicate_succ, Array.replicate_zero, List.push_toArray, List.append_toArray, List.nil_append, List.cons_append]
  have hi0 : (0 : Int) ≤ (h : Int) := Int.natCast_nonneg _
  have hi1 : (h : Int) < (N : Int) := by omega
  have HS := hid hsl
  clear hsl
  gi_wp2
  clear hBh hBl hrow
  have hd1 : decide ((h : Int) < 0) = false := decide_eq_false (by omega)
  have hd2 : decide (N ≤ h) = false := decide_eq_false (by omega)
  simp only [hd1, hd2, Bool.or_self]
  clear hd1 hd2
  gi_loopw [19] (fun i wr => ∃ k : Nat, k ≤ L.length ∧ i = .int .i64 k ∧ J (L.take k) wr ∧ Sl wr (fun i => n₀ ≤ i) 1 A L.length (icellsC L)) (fun i _ => L.length - (RowKit.intOf i).toNat)
  case atStart => exact ⟨0, Nat.zero_le _, rfl, by rw [List.take_zero]; exact hJ, HS.out⟩
  case round =>
    obtain ⟨k, hk, rfl, hJk, hsk⟩ := hrel
    by_cases hkn : k < L.length
    · obtain ⟨x, hx⟩ := get_some hkn
      obtain ⟨b1, o1, rfl, hb1, x0⟩ := ints_at hsk hx
      have hk0 : (0 : Int) ≤ (k : Int) := Int.natCast_nonneg _
      have hk1 : (k : Int) < (L.length : Int) := by omega
      have HTS := hid (take_snoc hx)
      obtain ⟨fn, tmps, assign, body, hy, hR⟩ := hY (L.take k) x wr hJk (by rw [List.length_take]; omega) (List.mem_of_getElem? hx)
      have HSk := hid hsk
      clear hx hJk hsk
      gi_wp2
      refine hR.mono ?_
      rintro e W3 (⟨rfl, hJ3, hk3⟩ | ⟨rfl, hJx3⟩)
      · have HJ3 := hid hJ3
        have HS3 := hid (HSk.out.keep (Keep.of_belowN hk3) (fun i _ e => e))
        clear hJ3 hk3 hR hy x0
        gi_wp2
        go_roundw
        case rel => first | exact ⟨k + 1, by omega, by go_num, by rw [HTS.out]; exact HJ3.out, HS3.out⟩ | ((repeat apply Exists.intro); refine And.intro ?_ rfl; exact ⟨k + 1, by omega, by go_num, by rw [HTS.out]; exact HJ3.out, HS3.out⟩)
        case measure => simp [RowKit.intOf]; omega
      · have HJX := hid hJx3
        clear hJx3 hR hy
        gi_wp2
        refine bodyPost_ret (results_none rfl _ _ _) rfl ?_
        exact ⟨⟨_, rfl⟩, .inr ⟨L.take k ++ [x], by rw [← HTS.out]; exact List.take_prefix _ _, HJX.out⟩⟩
    · have hke : k = L.length := by omega
      subst hke
      rw [List.take_length] at hJk
      gi_wp2
      go_end0
      exact ⟨⟨_, rfl⟩, .inl ⟨L, rfl, hJk⟩⟩
theorem enum_mem (n : Nat) (hn : 1 ≤ n) (Bh Bl n₀ p N h : Nat) (A : Option Addr) (c : Nat) (L : List Int) (hN : N ≤ 4096) (hL : L.length ≤ 16384) (w : World) (hb1 : Bh < w.heap.size) (hb2 : Bl < w.heap.size) (_hn₀ : n₀ ≤ w.heap.size) (hp : p < w.heap.size)
    (hBh : w.cell? ⟨Bh, 0, none⟩ = some (.int .i64 (h : Int))) (hBl : w.cell? ⟨Bl, 0, none⟩ = some (.slice (some ⟨p, 0, none⟩) N N)) (hh : h < N)
    (hrow : w.cell? ⟨p, h, none⟩ = some (.slice A L.length c)) (hsl : Sl w (fun i => n₀ ≤ i) 1 A L.length (icellsC L)) :
    SeqStopsK Fence.wide n Try.prog 38 #[.pointer (some ⟨Bh, 0, none⟩), .pointer (some ⟨Bl, 0, none⟩)] (fun x : { x : Int // x ∈ L } => #[Value.int .i64 x.1]) (Below n₀) (fun ys => ys.map (·.1) = L) (fun _ => True) L.length w :=
  seq_mem fun l J Jx W hW _hJ _ hY h1 =>
  enum1_in n hn l Bh Bl n₀ p N h A c L J Jx hN hL hY W ((hW.cell (p := ⟨Bh, 0, none⟩) hb1).trans hBh) ((hW.cell (p := ⟨Bl, 0, none⟩) hb2).trans hBl) hh ((hW.cell (p := ⟨p, h, none⟩) hp).trans hrow)
    (hsl.same (Keep.of_below hW)) h1
theorem icC_appH (l m : List Int) : icellsC (l ++ m) = icellsC l ++ icellsC m := by simp [icellsC]
theorem Elem.lawIn2 {P : Program} {t e : TypeId} {size bytes : Nat} {z : Value} (E : Elem P t e size bytes z) {F : Fence} {nF : Nat} {w : World} {ops : Array Oper} {rest : List Oper} {o : Oper} {a : Act} {Q : Exit → Act → World → Prop} (s x : Operand)
    (v : Value) (A : Option Addr) (m c : Nat) (hgd : o.guard = none) (ho : o.op = .call { callee := .builtin .append, args := #[s, x], argTypes := #[t, t] }) (hs : a.eval s = v) (hx : a.eval x = .slice A m c)
    (base n : Nat) (xs news : List Value) (k : Nat) (ys : List Value) (hk : n + m = k) (hys : xs ++ news = ys) (hown : Own w base e size v n xs) (hl : news.length = m * size) (hA : 0 < m → ∃ ad, A = some ad ∧ ∀ j u, news[j]? = some u → w.cell? (ad.add j) = some u) (h1 : ∀ u ∈ news, u.oneCell' = true)
    (hb : k * bytes ≤ 140737488355328) (h63 : k ≤ maxLen) (hbase : base ≤ w.heap.size)
    (h : ∀ A' c' w', Own w' base e size (.slice A' k c') k ys → w.grownBy w' v.ownBlock → (A'.map (·.block) = v.ownBlock ∨ A'.map (·.block) = some w.heap.size) → wpListIn F nF P ops Q rest (a.put o.dst (.slice A' k c')) w') : wpListIn F nF P ops Q (o :: rest) a w := by
  subst hk hys
  refine wpListIn_plain hgd fun K hK => ?_
  obtain ⟨v', w', hrun, h2, h3⟩ := E.append w base o.type v n xs hown A m c news hl hA h1 hb h63 hbase
  have hwh := E.append_where w base o.type v n xs hown A m c news hl hA h1 hb h63 hrun
  unfold Oper.wpIn
  refine ⟨by simp [Oper.about, ho, resolve, Target.leads, Sem.run_pure], ?_⟩
  rw [Oper.semAt_plain F _ _ (by rw [ho]; intro c hc'; cases hc')]
  simp [execOp, ho, resolve, invoke, builtin, hs, hx, hrun, Result.andThen]
  obtain ⟨A', c', rfl⟩ := h2.shape
  exact hK _ _ (h A' c' w' h2 h3 (by cases A' <;> simpa [Value.ownBlock] using hwh))
theorem KeepsFrom.up {W W' : World} {B : Nat} (h : KeepsFrom 0 W W') : KeepsFrom B W W' := ⟨h.size, fun k o _ hk ho => h.same k o (Nat.zero_le _) hk ho⟩
theorem Marks.st {W W' : World} {ds : List Nat} (h : Marks W ds) (hk : KeepsFrom 0 W W') : Marks W' ds := ⟨h.1, fun D hD => hk.same D _ (Nat.zero_le _) (h.2 D hD) rfl⟩
def noPanic (Q : Exit → Act → World → Prop) : Exit → Act → World → Prop
  | .panic _, _, _ => False
  | e, a, w => Q e a w
theorem noPanic_normal {Q : Exit → Act → World → Prop} {a : Act} {w : World} (h : Q .normal a w) : noPanic Q .normal a w := h
theorem wp_noPanic {P : Program} {c : Code} {Q : Exit → Act → World → Prop} {a : Act} {w : World} (h : c.wp P (noPanic Q) a w) : c.wp P Q a w := wp_mono h (fun e a w hq => by cases e <;> first | exact hq | exact hq.elim)
theorem range_lt {w : World} {p : Addr} {v : Value} (h : w.cell? p = some v) : p.block < w.heap.size := by
  cases hb : w.heap[p.block]? with
  | none => unfold World.cell? at h; rw [hb] at h; cases h
  | some _ => exact (Array.getElem?_eq_some_iff.1 hb).1
/-- What a step of a body may turn. -/
structure St (s B : Nat) (W W' : World) : Prop where
  kf : KeepsFrom B W W'
  kp : Keep (fun i => s ≤ i) W W'
theorem St.refl (s B : Nat) (W : World) : St s B W W := ⟨KeepsFrom.refl _ _, Keep.refl _ _⟩
theorem St.trans {s B : Nat} {X Y Z : World} (h : St s B X Y) (k : St s B Y Z) : St s B X Z := ⟨h.kf.trans k.kf, h.kp.trans k.kp (fun _ _ e => e)⟩
theorem St.alloc (s B : Nat) (W : World) (o : Obj) : St s B W (W.alloc o) := ⟨(KeepsOthers.alloc _ _).from _, (Keep.refl _ _).alloc _⟩
theorem St.put {s : Nat} (B : Nat) (W : World) {b : Nat} (i : Nat) (u : Value) (hb : s ≤ b) : St s B W (W.setCell ⟨b, i, none⟩ u) := ⟨(KeepsOthers.setCell _ _ _).from _, (Keep.refl _ _).setCell (fun _ => hb) _⟩
theorem St.grown {s : Nat} (B : Nat) {W W' : World} {base n size : Nat} {e : TypeId} {v : Value} {xs : List Value} (ho : Own W base e size v n xs) (hg : W.grownBy W' v.ownBlock) (hb : s ≤ base) : St s B W W' :=
  ⟨KeepsFrom.of_keep B ((Keep.refl (fun i => v.ownBlock = some i) _).grown hg (fun i e _ => e)) (fun k o hk hh => by
    rcases ho.2 with ⟨rfl, _⟩ | ⟨g, cap, cur, rfl, _, hq, _⟩
    · simp [Value.ownBlock] at hk
    · simp [Value.ownBlock] at hk; subst hk
      rw [hq] at hh; cases hh; rfl), (Keep.refl _ _).grown hg (fun i e _ => Nat.le_trans hb (ho.block i e))⟩
theorem St.below {s B : Nat} {W W' : World} (h : St s B W W') (hs : s ≤ W.heap.size) : Below s W W' := h.kp.to_below (fun _ e => e) hs
/-- A loop whose measure is read off a state that the frame and the world are in. -/
theorem least {p : Nat → Prop} (h : ∃ n, p n) : ∃ n, p n ∧ ∀ k, p k → n ≤ k := by
  obtain ⟨n, hn⟩ := h
  induction n using Nat.strongRecOn with
  | _ n ih =>
    by_cases g : ∃ k, k < n ∧ p k
    · obtain ⟨k, hk, hp⟩ := g
      exact ih k hk hp
    · exact ⟨n, hn, fun k hk => by
        rcases Nat.lt_or_ge k n with h | h
        · exact absurd ⟨k, h, hk⟩ g
        · exact h⟩
theorem wpIn_loop_st {S : Type} {F : Fence} {n : Nat} {P : Program} {c : Code} {Q : Exit → Act → World → Prop} {a : Act} {w : World} (St : S → Act → World → Prop) (m : S → Nat) (h0 : ∃ s, St s a w)
    (round : ∀ s a w, St s a w → c.wpIn F n P (Exit.then (fun a' w' => ∃ s', St s' a' w' ∧ m s' < m s) Q) a w) : (Code.loop c).wpIn F n P Q a w := by
  let μ : Act → World → Nat := fun a w => by
    classical exact if h : ∃ k, ∃ s, St s a w ∧ m s = k then Classical.choose (least h) else 0
  have hμ : ∀ a w, (∃ s, St s a w) → ∃ s, St s a w ∧ m s = μ a w := fun a w ⟨s, hs⟩ => by
    have h : ∃ k, ∃ s, St s a w ∧ m s = k := ⟨_, s, hs, rfl⟩
    have := (Classical.choose_spec (least h)).1
    obtain ⟨s', h1, h2⟩ := this
    exact ⟨s', h1, by rw [h2]; simp only [μ, dif_pos h]⟩
  have hle : ∀ a w s, St s a w → μ a w ≤ m s := fun a w s hs => by
    have h : ∃ k, ∃ s, St s a w ∧ m s = k := ⟨_, s, hs, rfl⟩
    have := (Classical.choose_spec (least h)).2 _ ⟨s, hs, rfl⟩
    simp only [μ, dif_pos h]; exact this
  refine wpIn_loop (fun a w => ∃ s, St s a w) μ h0 (fun a w h => ?_)
  obtain ⟨s, hs, hm⟩ := hμ a w h
  refine wpIn_mono (round s a w hs) (fun e a' w' hq => ?_)
  cases e with
  | normal =>
    obtain ⟨s', h1, h2⟩ := hq
    exact ⟨⟨s', h1⟩, by have := hle a' w' s' h1; omega⟩
  | exit id => exact hq
  | goto l => exact hq
  | ret => exact hq
  | panic ch => exact hq
  | outgrown => exact hq
end Go.Proofs.Ytmllpapkgfclkaa

import Derived.Test.YtnejacmmbfeneaaDoorScHa
import Derived.RegionTactic
import Derived.Deep.RegionHeld3
import Derived.Sort.CutIn
namespace Go.Proofs.YtnejacmmbfeneaaDoor
open Go.RowKit Go.Shelf

attribute [local go_sem] Oper.semAt_some

/-! ## Reachable: its state -/
def flagsL (N : Nat) (L : List Int) : List Value := (List.range N).map fun (i : Nat) => .bool (decide ((i : Int) ∈ L))
theorem flagsL_at {N i : Nat} (L : List Int) (h : i < N) : (flagsL N L)[i]? = some (.bool (decide ((i : Int) ∈ L))) := by simp [flagsL, h]
theorem flagsL_len (N : Nat) (L : List Int) : (flagsL N L).length = N := by simp [flagsL]
theorem flagsL_set {N x : Nat} (L : List Int) (h : x < N) : (flagsL N L).set x (.bool true) = flagsL N (L ++ [(x : Int)]) := by
  apply List.ext_getElem?
  intro i
  rw [List.getElem?_set]
  rcases Nat.lt_or_ge i N with hi | hi
  · by_cases e : x = i
    · subst e
      rw [if_pos rfl, if_pos (by rw [flagsL_len]; exact h), flagsL_at _ hi]; simp
    · rw [if_neg e, flagsL_at L hi, flagsL_at (L ++ [(x : Int)]) hi]
      have : (i : Int) ≠ (x : Int) := by omega
      simp [this]
  · have h1 : (flagsL N L)[i]? = none := List.getElem?_eq_none (by rw [flagsL_len]; exact hi)
    have h2 : (flagsL N (L ++ [(x : Int)]))[i]? = none := List.getElem?_eq_none (by rw [flagsL_len]; exact hi)
    rw [h1, h2]
    by_cases e : x = i
    · omega
    · rw [if_neg e]
theorem flagsL_nil (N : Nat) : flagsL N [] = List.replicate N (.bool false) := by
  rw [flagsL, show (fun i : Nat => Value.bool (decide ((i : Int) ∈ ([] : List Int)))) = fun _ => .bool false from by funext i; simp, List.map_const', List.length_range]
/-- The first k nodes of the list: what is reached from them over an edge is in the list. -/
def Closed (l : List E3) (L : List Int) (k : Nat) : Prop := ∀ (i : Nat) (x : Int), i < k → L[i]? = some x → ∀ e ∈ l, e.a = x → e.b ∈ L
structure RS (w W : World) (g N s : Nat) (Q L : List Int) : Prop where
  n2 : Blk W s 36 #[.pointer (some ⟨g, 0, none⟩)]
  r4 : Blk W (s + 2) 42 #[.pointer none]
  h5 : Blk W (s + 4) 71 #[.slice (some ⟨s + 3, 0, none⟩) N N]
  qs : Blk W (s + 3) 4 (flagsL N Q).toArray
  ls : ∃ A c, Blk W (s + 5) 25 #[.slice A L.length c] ∧ Own W (s + 6) 3 1 (.slice A L.length c) L.length (icellsC L)
  same : Same w W
  hs : w.heap.size = s
  top : s + 6 ≤ W.heap.size
  nd : L.Nodup
  rg : ∀ x ∈ L, 0 ≤ x ∧ x < N
section
variable {w W W' w1 w7 : World} {g N s : Nat} {Q L : List Int}
theorem nodup_le : ∀ (N : Nat) (l : List Int), l.Nodup → (∀ x ∈ l, 0 ≤ x ∧ x < N) → l.length ≤ N
  | 0, l, _, h => by
    cases l with
    | nil => exact Nat.le_refl _
    | cons a l => have := h a (List.mem_cons_self ..); omega
  | N + 1, l, hn, h => by
    have ih := nodup_le N (l.erase (N : Int)) (hn.erase _) (fun x hx => by
      have hm := List.mem_of_mem_erase hx
      have := h x hm
      have hne : x ≠ (N : Int) := fun e => by subst e; exact hn.not_mem_erase hx
      omega)
    have := List.length_erase (a := (N : Int)) (l := l)
    split at this <;> omega
theorem RS.len (h : RS w W g N s Q L) : L.length ≤ N := nodup_le N L h.nd h.rg
theorem RS.grownX {row : Option Nat} (h : RS w W g N s Q L) (hg : W.grownBy W' row) (hr : ∀ r, row = some r → ∃ o : Obj, W.heap[r]? = some o ∧ o.isCells = false) (hB : ∀ r, row = some r → w.heap.size ≤ r) : RS w W' g N s Q L := by
  obtain ⟨A, c, h1, h2⟩ := h.ls
  exact ⟨h.n2.grownX hg hr, h.r4.grownX hg hr, h.h5.grownX hg hr, h.qs.grownX hg hr, ⟨A, c, h1.grownX hg hr, Own.grownX h2 hg hr⟩, h.same.grown hg (fun r e hl => by have := hB r e; omega), h.hs, Nat.le_trans h.top hg.size, h.nd, h.rg⟩
theorem RS.more (h : RS w W g N s Q L) (hk : Same W W') : RS w W' g N s Q L := by
  obtain ⟨A, c, h1, h2⟩ := h.ls
  exact ⟨h.n2.keep hk (fun f => f), h.r4.keep hk (fun f => f), h.h5.keep hk (fun f => f), h.qs.keep hk (fun f => f), ⟨A, c, h1.keep hk (fun f => f), h2.keepB hk (fun _ _ f => f)⟩, h.same.then hk, h.hs, Nat.le_trans h.top hk.size, h.nd, h.rg⟩
/-- A node is marked. -/
theorem RS.mark (h : RS w W g N s Q L) {x : Nat} (hx : x < N) : RS w (W.setCell ⟨s + 3, x, none⟩ (.bool true)) g N s (Q ++ [(x : Int)]) L := by
  obtain ⟨A, c, h1, h2⟩ := h.ls
  have hk : Keep (· = s + 3) W (W.setCell ⟨s + 3, x, none⟩ (.bool true)) := (Keep.refl (· = s + 3) W).put _ _
  have hs := h.hs
  refine ⟨h.n2.keep hk (by omega), h.r4.keep hk (by omega), h.h5.keep hk (by omega), ?_, ⟨A, c, h1.keep hk (by omega), h2.keepB hk (fun i hi e => by have e2 : i = s + 3 := e; have := h2.block i hi; omega)⟩,
    h.same.trans hk (fun i hi e => by have e2 : i = s + 3 := e; omega), h.hs, Nat.le_trans h.top hk.size, h.nd, h.rg⟩
  have := h.qs.put x (.bool true)
  rw [List.setIfInBounds_toArray, flagsL_set Q hx] at this
  exact this
/-- A node is appended to the list (the world w7), and the header is stored. -/
theorem RS.push (h : RS w W g N s Q L) {A A7 : Option Addr} {c c7 : Nat} {x : Int} (hk1 : Same W w1) (h1 : Blk W (s + 5) 25 #[.slice A L.length c]) (h2 : Own W (s + 6) 3 1 (.slice A L.length c) L.length (icellsC L))
    (hg : w1.grownBy w7 (Value.slice A L.length c).ownBlock) (ho : Own w7 (s + 6) 3 1 (.slice A7 (L.length + 1) c7) (L.length + 1) (icellsC (L ++ [x]))) (hx : x ∉ L) (h0 : 0 ≤ x) (hN : x < N) :
    RS w (w7.setCell ⟨s + 5, 0, none⟩ (.slice A7 (L.length + 1) c7)) g N s Q (L ++ [x]) := by
  have hG : Keep (fun i => s + 6 ≤ i) w1 w7 := (Keep.refl _ _).grown hg (fun i e _ => h2.block i e)
  have hP : Keep (· = s + 5) w7 (w7.setCell ⟨s + 5, 0, none⟩ (.slice A7 (L.length + 1) c7)) := (Keep.refl (· = s + 5) w7).put 0 _
  have hs := h.hs
  have hb : ∀ {t : TypeId} {cs : Array Value} {i : Nat}, Blk W i t cs → i < s + 5 → Blk (w7.setCell ⟨s + 5, 0, none⟩ (.slice A7 (L.length + 1) c7)) i t cs := fun hb hi =>
    ((hb.keep hk1 (fun f => f)).keep hG (by omega)).keep hP (by omega)
  refine ⟨hb h.n2 (by omega), hb h.r4 (by omega), hb h.h5 (by omega), hb h.qs (by omega), ⟨A7, c7, ?_, ?_⟩, ((h.same.then hk1).trans hG (fun i hi e => by have e2 : s + 6 ≤ i := e; omega)).trans hP (fun i hi e => by have e2 : i = s + 5 := e; omega), hs,
    Nat.le_trans (Nat.le_trans (Nat.le_trans h.top hk1.size) hG.size) hP.size, ?_, ?_⟩
  · have := ((h1.keep hk1 (fun f => f)).keep hG (by omega)).put 0 (.slice A7 (L.length + 1) c7)
    simpa using this
  · have := ho.keepB hP (fun i hi e => by have e2 : i = s + 5 := e; have := ho.block i hi; omega)
    simpa using this
  · refine List.nodup_append.2 ⟨h.nd, by simp, fun a ha b hb e => ?_⟩
    rw [List.mem_singleton] at hb
    exact hx (by rw [← hb, ← e]; exact ha)
  · intro y hy
    rcases List.mem_append.1 hy with hy | hy
    · exact h.rg y hy
    · rw [List.mem_singleton] at hy; subst hy; exact ⟨h0, hN⟩
end
theorem icC_appH (l m : List Int) : icellsC (l ++ m) = icellsC l ++ icellsC m := by simp [icellsC]
theorem Elem.lawIn2 {P : Program} {t e : TypeId} {size bytes : Nat} {z : Value} (E : Elem P t e size bytes z) {F : Fence} {nF : Nat} {w : World} {ops : Array Oper} {rest : List Oper} {o : Oper} {a : Act} {Q : Exit → Act → World → Prop} (s x : Operand)
    (v : Value) (A : Option Addr) (m c : Nat) (hgd : o.guard = none) (ho : o.op = .call { callee := .builtin .append, args := #[s, x], argTypes := #[t, t] }) (hs : a.eval s = v) (hx : a.eval x = .slice A m c)
    (base n : Nat) (xs news : List Value) (k : Nat) (ys : List Value) (hk : n + m = k) (hys : xs ++ news = ys) (hown : Own w base e size v n xs) (hl : news.length = m * size) (hA : 0 < m → ∃ ad, A = some ad ∧ ∀ j u, news[j]? = some u → w.cell? (ad.add j) = some u) (h1 : ∀ u ∈ news, u.oneCell' = true)
    (hb : k * bytes ≤ 140737488355328) (h63 : k ≤ maxLen) (hbase : base ≤ w.heap.size)
    (h : ∀ A' c' w', Own w' base e size (.slice A' k c') k ys → w.grownBy w' v.ownBlock → (A'.map (·.block) = v.ownBlock ∨ A'.map (·.block) = some w.heap.size) → wpListIn F nF P ops Q rest (a.put o.dst (.slice A' k c')) w') : wpListIn F nF P ops Q (o :: rest) a w := by
  subst hk hys
  refine wpListIn_plain hgd fun K hK => ?_
  obtain ⟨v', w', hrun, h2, h3⟩ := E.append w base o.type v n xs hown A m c news hl hA h1 hb h63 hbase
  have hwh := E.append_where w base o.type v n xs hown A m c news hl hA h1 hb h63 hrun
  unfold Oper.wpIn
  refine ⟨by simp [Oper.about, ho, resolve, Target.leads, Sem.run_pure], ?_⟩
  rw [Oper.semAt_plain F _ _ (by rw [ho]; intro c hc'; cases hc')]
  simp [execOp, ho, resolve, invoke, builtin, hs, hx, hrun, Result.andThen]
  obtain ⟨A', c', rfl⟩ := h2.shape
  exact hK _ _ (h A' c' w' h2 h3 (by cases A' <;> simpa [Value.ownBlock] using hwh))
theorem KeepsFrom.up {W W' : World} {B : Nat} (h : KeepsFrom 0 W W') : KeepsFrom B W W' := ⟨h.size, fun k o _ hk ho => h.same k o (Nat.zero_le _) hk ho⟩
theorem Marks.st {W W' : World} {ds : List Nat} (h : Marks W ds) (hk : KeepsFrom 0 W W') : Marks W' ds := ⟨h.1, fun D hD => hk.same D _ (Nat.zero_le _) (h.2 D hD) rfl⟩
def noPanic (Q : Exit → Act → World → Prop) : Exit → Act → World → Prop
  | .panic _, _, _ => False
  | e, a, w => Q e a w
theorem noPanic_normal {Q : Exit → Act → World → Prop} {a : Act} {w : World} (h : Q .normal a w) : noPanic Q .normal a w := h
theorem wp_noPanic {P : Program} {c : Code} {Q : Exit → Act → World → Prop} {a : Act} {w : World} (h : c.wp P (noPanic Q) a w) : c.wp P Q a w := wp_mono h (fun e a w hq => by cases e <;> first | exact hq | exact hq.elim)
theorem range_lt {w : World} {p : Addr} {v : Value} (h : w.cell? p = some v) : p.block < w.heap.size := by
  cases hb : w.heap[p.block]? with
  | none => unfold World.cell? at h; rw [hb] at h; cases h
  | some _ => exact (Array.getElem?_eq_some_iff.1 hb).1
/-- Between two rounds of the inner loop. -/
def I2 (w : World) (g N s : Nat) (l : List E3) (L : List Int) (ds : List Nat) {R : List Int} (pre : List { x : Int // x ∈ R }) (W : World) : Prop :=
  ∃ L', RS w W g N s L' L' ∧ L <+: L' ∧ (∀ y ∈ pre.map (·.1), ∀ (i : Nat) (e : E3), y = (i : Int) → l[i]? = some e → e.b ∈ L') ∧ Marks W ds
theorem closed_step {l : List E3} {L L' : List Int} {k h : Nat} (hc : Closed l L k) (hp : L <+: L') (hx : L[k]? = some (h : Int)) (hy : ∀ y ∈ outP E3.a l h l.length, ∀ (i : Nat) (e : E3), y = (i : Int) → l[i]? = some e → e.b ∈ L') : Closed l L' (k + 1) := by
  intro i x hi hxi e he hea
  obtain ⟨t, rfl⟩ := hp
  have hkl := (List.getElem?_eq_some_iff.1 hx).1
  rw [List.getElem?_append_left (by omega)] at hxi
  by_cases hik : i < k
  · exact List.mem_append_left _ (hc i x hik hxi e he hea)
  · have : i = k := by omega
    subst this
    rw [hx] at hxi
    cases hxi
    obtain ⟨j, hj⟩ := List.getElem?_of_mem he
    exact hy _ (outP_mem.2 ⟨j, e, (List.getElem?_eq_some_iff.1 hj).1, hj, hea, rfl⟩) j e rfl hj
/-- What a step of a body may turn. -/
structure St (s B : Nat) (W W' : World) : Prop where
  kf : KeepsFrom B W W'
  kp : Keep (fun i => s ≤ i) W W'
theorem St.refl (s B : Nat) (W : World) : St s B W W := ⟨KeepsFrom.refl _ _, Keep.refl _ _⟩
theorem St.trans {s B : Nat} {X Y Z : World} (h : St s B X Y) (k : St s B Y Z) : St s B X Z := ⟨h.kf.trans k.kf, h.kp.trans k.kp (fun _ _ e => e)⟩
theorem St.alloc (s B : Nat) (W : World) (o : Obj) : St s B W (W.alloc o) := ⟨(KeepsOthers.alloc _ _).from _, (Keep.refl _ _).alloc _⟩
theorem St.put {s : Nat} (B : Nat) (W : World) {b : Nat} (i : Nat) (u : Value) (hb : s ≤ b) : St s B W (W.setCell ⟨b, i, none⟩ u) := ⟨(KeepsOthers.setCell _ _ _).from _, (Keep.refl _ _).setCell (fun _ => hb) _⟩
theorem St.grown {s : Nat} (B : Nat) {W W' : World} {base n size : Nat} {e : TypeId} {v : Value} {xs : List Value} (ho : Own W base e size v n xs) (hg : W.grownBy W' v.ownBlock) (hb : s ≤ base) : St s B W W' :=
  ⟨KeepsFrom.of_keep B ((Keep.refl (fun i => v.ownBlock = some i) _).grown hg (fun i e _ => e)) (fun k o hk hh => by
    rcases ho.2 with ⟨rfl, _⟩ | ⟨g, cap, cur, rfl, _, hq, _⟩
    · simp [Value.ownBlock] at hk
    · simp [Value.ownBlock] at hk; subst hk
      rw [hq] at hh; cases hh; rfl), (Keep.refl _ _).grown hg (fun i e _ => Nat.le_trans hb (ho.block i e))⟩
theorem St.below {s B : Nat} {W W' : World} (h : St s B W W') (hs : s ≤ W.heap.size) : Below s W W' := h.kp.to_below (fun _ e => e) hs
def RI (w : World) (g N s : Nat) (ws : List Nat) (pre : List { x : Int // x ∈ elemsI ws }) (W : World) : Prop := RS w W g N s (pre.map (·.1)) (pre.map (·.1))
theorem EBoolH : Elem Tryd.prog 71 4 1 1 (.bool false) := ⟨Tryd.underlying71, by kernel_rfl, rfl, by decide⟩
theorem infoH : (Tryd.prog.info? 3).map (fun i => (i.zero, i.size, i.bytes)) = some (some (.int .i64 0), 1, 8) := by kernel_rfl
set_option maxRecDepth 100000 in
set_option maxHeartbeats 4000000 in
theorem reach_any (w : World) (hT : Tab w) (h0 : 0 < w.heap.size) (g N : Nat) (l : List E3) (E : Option Addr) (cE po pi : Nat) (hG : IsG w g N l E cE po pi) (hN : N ≤ 4096) (hl : l.length ≤ 16384) (hok : ∀ e ∈ l, (0 ≤ e.a ∧ e.a < N) ∧ (0 ≤ e.b ∧ e.b < N) ∧ e.c ≤ 1048576)
    (v : Value) (ws : List Nat) (hs : IsSet w v ws) (a : Int) (he : elemsI ws = [a]) (ha0 : 0 ≤ a) (ha1 : a < N) :
    Calls Tryd.prog 10 #[.pointer (some ⟨g, 0, none⟩), .agg #[v]] w fun e w' => ∃ L, SetPost w (ofW L) e w' ∧ a ∈ L ∧ Closed l L L.length ∧ ∀ x ∈ L, 0 ≤ x ∧ x < N := by
  refine (callsIn_wide (n := 6)).1 ?_
  obtain ⟨i0, hi, hz0, hz1, hz2⟩ := info_parts infoH
  have hmk := fun W => EBoolH.make .i64 .i64 N N (by omega) (by omega) (by omega) (by omega) W
  refine callsIn_of_wp_marks Tryd.func10 rfl trivial ?_ rfl
  simp only [Tryd.ntmps10, List.size_toArray, List.length_cons, List.length_nil, Nat.reduceAdd, Nat.reduceSub, Array.replicate_succ, Array.replicate_zero, List.push_toArray, List.append_toArray, List.nil_append, List.cons_append]
  have HND := hid (fun W (hk : Same w W) => nodes_any W g N l E cE po pi (hG.same hk) hN)
  have HG := hid hG
  have HS := hid hs
  have HT := hid hT
  have HOK := hid hok
  have HE := hid he
  have HK3 := hid (show Same w (((w.alloc (.cells #[.pointer (some ⟨g, 0, none⟩)] 36)).alloc (.cells #[v] 42)).alloc (.cells #[.pointer none] 42)) from (((Keep.refl _ w).alloc _).alloc _).alloc _)
  clear hG hs hT hok he
  gi_wp2_with (first
    | (refine ⟨trivial, ?_⟩; gi_at_call 28; refine (callsIn_wide.2 (HND.out _ HK3.out)).mono ?_; rintro e w2 ⟨rfl, rfl⟩)
    | (refine ⟨trivial, ?_⟩; gi_at_call 29; refine (each_in _ v _).mono ?_; rintro e w5 ⟨rfl, rfl⟩))
  have hRS : RS w (((((((w.alloc (.cells #[.pointer (some ⟨g, 0, none⟩)] 36)).alloc (.cells #[v] 42)).alloc (.cells #[.pointer none] 42)).alloc (.cells (madeCells #[.bool false] N) 4)).alloc
      (.cells #[.slice (some ⟨w.heap.size + 1 + 1 + 1, 0, none⟩) N N] 71)).alloc (.cells #[.slice none 0 0] 25)).alloc (.cells #[v] 42)) g N w.heap.size [] [] := by
    have e : (madeCells #[.bool false] N) = (flagsL N []).toArray := by
      rw [← Array.toList_inj, toList_madeCells_one, flagsL_nil]
    rw [e]
    obtain ⟨W1, h1⟩ : ∃ W, W = w.alloc (.cells #[.pointer (some ⟨g, 0, none⟩)] 36) := ⟨_, rfl⟩
    rw [← h1]
    have z1 : W1.heap.size = w.heap.size + 1 := by rw [h1]; exact World.size_alloc _ _
    have q1 : Blk W1 w.heap.size 36 #[.pointer (some ⟨g, 0, none⟩)] := by rw [h1]; exact Blk.made _ _ _
    have k1 : Same w W1 := by rw [h1]; exact (Keep.refl _ w).alloc _
    clear h1
    obtain ⟨W2, h2⟩ : ∃ W, W = W1.alloc (.cells #[v] 42) := ⟨_, rfl⟩
    rw [← h2]
    have z2 : W2.heap.size = w.heap.size + 2 := by rw [h2, World.size_alloc, z1]
    have k2 : Same W1 W2 := by rw [h2]; exact (Keep.refl _ W1).alloc _
    clear h2
    obtain ⟨W3, h3⟩ : ∃ W, W = W2.alloc (.cells #[.pointer none] 42) := ⟨_, rfl⟩
    rw [← h3]
    have z3 : W3.heap.size = w.heap.size + 3 := by rw [h3, World.size_alloc, z2]
    have q3 : Blk W3 (w.heap.size + 2) 42 #[.pointer none] := by rw [h3, ← z2]; exact Blk.made _ _ _
    have k3 : Same W2 W3 := by rw [h3]; exact (Keep.refl _ W2).alloc _
    clear h3
    obtain ⟨W4, h4⟩ : ∃ W, W = W3.alloc (.cells (flagsL N []).toArray 4) := ⟨_, rfl⟩
    rw [← h4]
    have z4 : W4.heap.size = w.heap.size + 4 := by rw [h4, World.size_alloc, z3]
    have q4 : Blk W4 (w.heap.size + 3) 4 (flagsL N []).toArray := by rw [h4, ← z3]; exact Blk.made _ _ _
    have k4 : Same W3 W4 := by rw [h4]; exact (Keep.refl _ W3).alloc _
    clear h4
    obtain ⟨W5, h5⟩ : ∃ W, W = W4.alloc (.cells #[.slice (some ⟨w.heap.size + 1 + 1 + 1, 0, none⟩) N N] 71) := ⟨_, rfl⟩
    rw [← h5]
    have z5 : W5.heap.size = w.heap.size + 5 := by rw [h5, World.size_alloc, z4]
    have q5 : Blk W5 (w.heap.size + 4) 71 #[.slice (some ⟨w.heap.size + 3, 0, none⟩) N N] := by rw [h5, ← z4]; exact Blk.made _ _ _
    have k5 : Same W4 W5 := by rw [h5]; exact (Keep.refl _ W4).alloc _
    clear h5
    obtain ⟨W6, h6⟩ : ∃ W, W = W5.alloc (.cells #[.slice none 0 0] 25) := ⟨_, rfl⟩
    rw [← h6]
    have z6 : W6.heap.size = w.heap.size + 6 := by rw [h6, World.size_alloc, z5]
    have q6 : Blk W6 (w.heap.size + 5) 25 #[.slice none 0 0] := by rw [h6, ← z5]; exact Blk.made _ _ _
    have k6 : Same W5 W6 := by rw [h6]; exact (Keep.refl _ W5).alloc _
    clear h6
    have k7 : Same W6 (W6.alloc (.cells #[v] 42)) := (Keep.refl _ W6).alloc _
    exact ⟨((((((q1.keep k2 (fun f => f)).keep k3 (fun f => f)).keep k4 (fun f => f)).keep k5 (fun f => f)).keep k6 (fun f => f)).keep k7 (fun f => f)), ((((q3.keep k4 (fun f => f)).keep k5 (fun f => f)).keep k6 (fun f => f)).keep k7 (fun f => f)),
      ((q5.keep k6 (fun f => f)).keep k7 (fun f => f)), (((q4.keep k5 (fun f => f)).keep k6 (fun f => f)).keep k7 (fun f => f)), ⟨none, 0, q6.keep k7 (fun f => f), Own.nil _ _ _ _⟩, ((((((k1.then k2).then k3).then k4).then k5).then k6).then k7), rfl, by rw [World.size_alloc]; omega, List.nodup_nil, fun x hx => by cases hx⟩
  have bN := Boxed.new ((((((w.alloc (.cells #[.pointer (some ⟨g, 0, none⟩)] 36)).alloc (.cells #[v] 42)).alloc (.cells #[.pointer none] 42)).alloc (.cells (madeCells #[.bool false] N) 4)).alloc
      (.cells #[.slice (some ⟨w.heap.size + 1 + 1 + 1, 0, none⟩) N N] 71)).alloc (.cells #[.slice none 0 0] 25)) 42 v
  simp only [World.size_alloc] at bN
  have hz0 : ((((((((w.alloc (.cells #[.pointer (some ⟨g, 0, none⟩)] 36)).alloc (.cells #[v] 42)).alloc (.cells #[.pointer none] 42)).alloc (.cells (madeCells #[.bool false] N) 4)).alloc
      (.cells #[.slice (some ⟨w.heap.size + 1 + 1 + 1, 0, none⟩) N N] 71)).alloc (.cells #[.slice none 0 0] 25)).alloc (.cells #[v] 42))).heap.size = w.heap.size + 7 := by simp only [World.size_alloc, Nat.add_assoc, Nat.reduceAdd]
  generalize (((((((w.alloc (.cells #[.pointer (some ⟨g, 0, none⟩)] 36)).alloc (.cells #[v] 42)).alloc (.cells #[.pointer none] 42)).alloc (.cells (madeCells #[.bool false] N) 4)).alloc
      (.cells #[.slice (some ⟨w.heap.size + 1 + 1 + 1, 0, none⟩) N N] 71)).alloc (.cells #[.slice none 0 0] 25)).alloc (.cells #[v] 42)) = W0 at *
  simp only [Nat.add_assoc, Nat.reduceAdd] at *
  have hlo : ∀ g, v = .pointer (some ⟨g, 0, none⟩) → g < w.heap.size := by
    intro g e
    rcases HS.out.mem with ⟨e2, _⟩ | ⟨g2, e2, hb, _⟩
    · rw [e] at e2; cases e2
    · rw [e] at e2; cases e2; exact Blk.lt hb
  have hT0 : Tab W0 := HT.out.below hRS.same.below h0
  have hS0 : IsSet W0 v ws := HS.out.same hRS.same
  generalize hsz : w.heap.size = s at *
  clear HK3 HT hmk
  have HRS := hid hRS
  clear hRS
  refine wpIn_rangeFunc_ownG rfl (by decide) (gf := 39) (lb := #[.pointer (some ⟨s + 6, 0, none⟩)]) rfl trivial (enters_of Tryd.func39 (by kernel_rfl) rfl)
    (each_mem _ (by decide) (s + 6) s h0 v ws W0 (by omega) (by omega) bN.cell hS0 hlo hT0) belowK_t (belowK_b (by omega)) (Below.refl _ _) (fun _ => rfl)
    (RI w g N s ws)
    (fun _ _ _ => False)
    (fun pre A B row hs hg hr => RS.grownX (show RS w A g N s (pre.map (·.1)) (pre.map (·.1)) from hs) hg (fun r e => (hr r e).2) (fun r e => by have := (hr r e).1; omega))
    (fun _ _ _ _ _ hs _ _ => hs)
    HRS.out
    (fun x => { tmps := #[.pointer (some ⟨g, 0, none⟩), .agg #[v], .pointer (some ⟨s, 0, none⟩), .pointer (some ⟨s + 1, 0, none⟩), .pointer (some ⟨s + 2, 0, none⟩), .pointer (some ⟨s + 4, 0, none⟩), .pointer (some ⟨s + 5, 0, none⟩), .int .i64 x.1, undef, undef, undef, .pointer (some ⟨g, 0, none⟩), .int .i64 N, .slice (some ⟨s + 3, 0, none⟩) N N, .agg #[v], .func (.func 39) #[] #[.pointer (some ⟨s + 6, 0, none⟩)], .int .i64 x.1, undef, undef, undef, undef, undef, undef, undef, undef, undef, undef, undef, undef, undef, undef, undef, undef, undef, undef, undef, undef, undef, undef, undef, undef, undef, undef, undef, undef, undef, undef, undef, undef, undef, undef, undef, undef, undef, undef, undef, undef, undef, undef, undef, undef, undef, undef, undef, undef, undef, undef, undef, undef, undef], defers := [] }) ?assign ?body ?done ?stop
  case assign =>
    intro l x W K hK
    gi_wp2
    exact hK
  case body =>
    rintro l0 pre ⟨x, hx⟩ W hI hlt
    have hone : (elemsI ws).length = 1 := by rw [HE.out]; rfl
    obtain rfl : pre = [] := List.eq_nil_of_length_eq_zero (by omega)
    have hxa : x = a := by have h2 := hx; rw [HE.out] at h2; simpa using h2
    have HI := hid (show RS w W g N s [] [] from hI)
    obtain ⟨xn, hxn⟩ : ∃ n : Nat, x = n := ⟨_, (Int.toNat_of_nonneg (by omega)).symm⟩
    have hxN : xn < N := by omega
    have HM := hid (HI.out.mark hxN)
    obtain ⟨A, c, hb5, hown⟩ := HM.out.ls
    have HB5 := hid hb5
    have HO5 := hid hown
    have HKa := hid ((Keep.refl (fun _ => False) (W.setCell ⟨s + 3, xn, none⟩ (.bool true))).alloc (.cells #[.int .i64 (xn : Int)] 3))
    have HOa := hid (hown.keepB HKa.out (fun _ _ f => f))
    have hsa := src_new (w := W.setCell ⟨s + 3, xn, none⟩ (.bool true)) (cs := #[.int .i64 (xn : Int)]) (t := 3) (news := icellsC [(xn : Int)]) rfl
    have hst : (W.setCell ⟨s + 3, xn, none⟩ (.bool true)).heap.size = W.heap.size := by simp [World.setCell]
    rw [hst] at hsa
    have HSa := hid hsa
    have c2 : W.cell? ⟨s, 0, none⟩ = some (.pointer (some ⟨g, 0, none⟩)) := hI.n2.at_ 0
    have c5 : W.cell? ⟨s + 4, 0, none⟩ = some (.slice (some ⟨s + 3, 0, none⟩) N N) := hI.h5.at_ 0
    have cq : W.cell? ⟨s + 3, xn, none⟩ = some (.bool false) := (hI.qs.at_ xn).trans (by rw [List.getElem?_toArray]; exact (flagsL_at (N := N) (i := xn) _ hxN).trans (by simp))
    have fq := hI.qs.free xn
    have c6 : (W.setCell ⟨s + 3, xn, none⟩ (.bool true)).cell? ⟨s + 5, 0, none⟩ = some (.slice A 0 c) := hb5.at_ 0
    have hNI : (xn : Int) < (N : Int) := by omega
    clear hsa hst
    have HEX := hid hxn
    subst hxn
    clear hI hb5 hown hxa ha0 ha1
    gi_wp2_with (first
      | (refine ⟨trivial, ?_⟩; gi_at_call 28; refine (CallsIn.inRound l0 (callsIn_wide.2 (HND.out _ HI.out.same))).mono ?_; rintro e w2 ⟨rfl, rfl⟩)
      | (gi_at_builtin; refine EInt.lawIn2 (.tmp 24) (.tmp 26) (.slice A 0 c) (some ⟨W.heap.size, 0, none⟩) 1 1 rfl (by rfl) (by rfl) (by rfl) (s + 6) 0 (icellsC []) (icellsC [(xn : Int)]) (0 + 1) (icellsC ([] ++ [(xn : Int)])) rfl (icC_appH _ _).symm HOa.out rfl (fun _ => ⟨_, rfl, HSa.out⟩) (by intro u hu; simp [icellsC] at hu; subst hu; rfl) (by omega) (by unfold maxLen; omega) (by have := HM.out.top; have := HKa.out.size; omega) ?_; intro A7 c7 w7 ho7 hg7 hw7; have HX7 := hid (HM.out.push HKa.out HB5.out HO5.out hg7 ho7 (by simp) (by omega) hNI); have hb7 := (HB5.out.keep HKa.out (fun f => f)).keep ((Keep.refl (fun i => s + 6 ≤ i) _).grown hg7 (fun i e _ => HO5.out.block i e)) (by omega); have c7x : w7.cell? ⟨s + 5, 0, none⟩ = some (.slice A 0 c) := (hb7.at_ 0).trans rfl; have f7x := hb7.free 0; have HG7 := hid hg7; clear ho7 hg7 hw7 hb7))
    exact ⟨((((St.put W0.heap.size W xn (.bool true) (by omega)).trans (St.alloc s _ _ _)).trans (St.grown _ HOa.out HG7.out (by omega))).trans (St.put _ _ 0 (.slice A7 1 c7) (by omega))).kf, ((((St.put W0.heap.size W xn (.bool true) (by omega)).trans (St.alloc s _ _ _)).trans (St.grown _ HOa.out HG7.out (by omega))).trans (St.put _ _ 0 (.slice A7 1 c7) (by omega))).below (by have := HI.out.top; omega), HX7.out⟩
  case stop =>
    rintro D c pre W _ _ h _
    exact h.elim
  case done =>
    rintro D ys W hD hy hI hK
    have HI := hid (show RS w W g N s [a] [a] from by
      have : ys.map (·.1) = [a] := by rw [hy, HE.out]
      have h2 : RS w W g N s (ys.map (·.1)) (ys.map (·.1)) := hI
      rwa [this] at h2)
    have HMK := hid (show Marks W [D] from ⟨by simp, fun E hE => by rw [List.mem_singleton] at hE; subst hE; exact hK⟩)
    have HDs := hid (show ∀ E ∈ [D], s ≤ E from fun E hE => by rw [List.mem_singleton] at hE; omega)
    clear hI hy hK hT0 hS0 bN HRS hz0 hlo hD
    gi_wp2
    refine wpIn_loop (fun a' w' => ∃ (k : Nat) (ds : List Nat) (L : List Int) (u28 u29 u30 u31 u32 u33 u34 u35 u36 u37 u38 u39 : Value), Hid (RS w w' g N s L L ∧ Marks w' ds ∧ Closed l L k ∧ a ∈ L ∧ k ≤ L.length ∧ ∀ D ∈ ds, s ≤ D) ∧ a' = { tmps := #[.pointer (some ⟨g, 0, none⟩), .agg #[v], .pointer (some ⟨s, 0, none⟩), .pointer (some ⟨s + 1, 0, none⟩), .pointer (some ⟨s + 2, 0, none⟩), .pointer (some ⟨s + 4, 0, none⟩), .pointer (some ⟨s + 5, 0, none⟩), undef, .int .i64 (k : Int), undef, undef, .pointer (some ⟨g, 0, none⟩), .int .i64 N, .slice (some ⟨s + 3, 0, none⟩) N N, .agg #[v], .func (.func 39) #[] #[.pointer (some ⟨s + 6, 0, none⟩)], undef, undef, undef, undef, undef, undef, undef, undef, undef, undef, undef, undef, u28, u29, u30, u31, u32, u33, u34, u35, u36, u37, u38, u39, undef, undef, undef, undef, undef, undef, undef, undef, undef, undef, undef, undef, undef, undef, undef, undef, undef, undef, undef, undef, undef, undef, undef, undef, undef, undef, undef, undef, undef, undef], defers := ds.map markD }) (fun a' _ => N - (RowKit.intOf (a'.tmps.getD 8 undef)).toNat) ⟨0, [D], [a], undef, undef, undef, undef, undef, undef, undef, undef, undef, undef, undef, undef, hid ⟨HI.out, HMK.out, fun i x hi => absurd hi (Nat.not_lt_zero _), by simp, Nat.zero_le _, HDs.out⟩, rfl⟩ ?_
    rintro a' W1 ⟨k, ds, L, u28, u29, u30, u31, u32, u33, u34, u35, u36, u37, u38, u39, HX, rfl⟩
    try dsimp only
    clear HI HMK HDs
    by_cases hkn : k < L.length
    · obtain ⟨hrs, hmk, hcl, hal, hkl, hds⟩ := HX.out
      have HDS := hid hds
      clear hds
      have hlen := hrs.len
      obtain ⟨x, hx⟩ := get_some hkn
      obtain ⟨hx0, hx1⟩ := hrs.rg x (List.mem_of_getElem? hx)
      obtain ⟨h, hh⟩ : ∃ n : Nat, x = n := ⟨_, (Int.toNat_of_nonneg hx0).symm⟩
      subst hh
      obtain ⟨A, c, hb5, hown⟩ := hrs.ls
      obtain ⟨ga, cur, rfl, _, _⟩ := hown.open_ (by omega)
      have c2 : W1.cell? ⟨s, 0, none⟩ = some (.pointer (some ⟨g, 0, none⟩)) := hrs.n2.at_ 0
      have c6 : W1.cell? ⟨s + 5, 0, none⟩ = some (.slice (some ⟨ga, 0, none⟩) L.length c) := hb5.at_ 0
      have cx : W1.cell? ⟨ga, k, none⟩ = some (.int .i64 (h : Int)) := hown.cell (by simp [icellsC, hx])
      have hk0 : (0 : Int) ≤ (k : Int) := Int.natCast_nonneg _
      have hk1 : (k : Int) < (L.length : Int) := by omega
      have HR := hid (show RS w W1 g N s L L ∧ Marks W1 ds ∧ Closed l L k from ⟨hrs, hmk, hcl⟩)
      have HXA := hid (show L[k]? = some (h : Int) ∧ a ∈ L from ⟨hx, hal⟩)
      have HHN := hid (show h < N by omega)
      clear hrs hmk hcl hal hb5 hown hx hx0 hx1
      gi_upto_region 11 with fail
      refine wpIn_wide.2 ?_
      refine wp_noPanic ?_
      refine wp_region_held_drew (S := fun W => W.cell? ⟨s, 0, none⟩ = some (.pointer (some ⟨g, 0, none⟩)) ∧ W.cell? ⟨s + 5, 0, none⟩ = some (.slice (some ⟨ga, 0, none⟩) L.length c) ∧ W.cell? ⟨ga, k, none⟩ = some (.int .i64 (h : Int))) (by kernel_rfl) ⟨c2, c6, cx⟩ (fun hHeld => ?_)
      refine takeO (i := 0) (v := ?_) (by kernel_rfl) (by kernel_rfl) (by kernel_rfl) (fun c a d v w h => h) (oi := ?_) ?_ ?_ (by assumption) ?_
      rotate_left 2
      · (simp only [List.getElem?_toArray, List.getElem?_cons_zero]; rfl)
      · (refine Or.inl ⟨by rfl, ?_⟩; intro w hSw; (try dsimp only at hSw); obtain ⟨hS1, hS2, hS3⟩ := hSw; go_simp; try with_reducible rfl)
      try simp only [Act.put, List.setIfInBounds_toArray, List.set_cons_zero, List.set_cons_succ]
      refine takeO (i := 1) (v := ?_) (by kernel_rfl) (by kernel_rfl) (by kernel_rfl) (fun c a d v w h => h) (oi := ?_) ?_ ?_ (by assumption) ?_
      rotate_left 2
      · (simp only [List.getElem?_toArray, List.getElem?_cons_succ, List.getElem?_cons_zero]; rfl)
      · (refine Or.inl ⟨by rfl, ?_⟩; intro w hSw; (try dsimp only at hSw); obtain ⟨hS1, hS2, hS3⟩ := hSw; go_simp; try with_reducible rfl)
      try simp only [Act.put, List.setIfInBounds_toArray, List.set_cons_zero, List.set_cons_succ]
      refine takeO (i := 2) (v := ?_) (by kernel_rfl) (by kernel_rfl) (by kernel_rfl) (fun c a d v w h => h) (oi := ?_) ?_ ?_ (by assumption) ?_
      rotate_left 2
      · (simp only [List.getElem?_toArray, List.getElem?_cons_succ, List.getElem?_cons_zero]; rfl)
      · (refine Or.inl ⟨by rfl, ?_⟩; intro w hSw; (try dsimp only at hSw); obtain ⟨hS1, hS2, hS3⟩ := hSw; go_simp; try with_reducible rfl)
      try simp only [Act.put, List.setIfInBounds_toArray, List.set_cons_zero, List.set_cons_succ]
      refine takeO (i := 3) (v := ?_) (by kernel_rfl) (by kernel_rfl) (by kernel_rfl) (fun c a d v w h => h) (oi := ?_) ?_ ?_ (by assumption) ?_
      rotate_left 2
      · (simp only [List.getElem?_toArray, List.getElem?_cons_succ, List.getElem?_cons_zero]; rfl)
      · (refine Or.inl ⟨by rfl, ?_⟩; intro w hSw; (try dsimp only at hSw); obtain ⟨hS1, hS2, hS3⟩ := hSw; go_simp; try with_reducible rfl)
      try simp only [Act.put, List.setIfInBounds_toArray, List.set_cons_zero, List.set_cons_succ]
      refine takeO (i := 4) (v := ?_) (by kernel_rfl) (by kernel_rfl) (by kernel_rfl) (fun c a d v w h => h) (oi := ?_) ?_ ?_ (by assumption) ?_
      rotate_left 2
      · (simp only [List.getElem?_toArray, List.getElem?_cons_succ, List.getElem?_cons_zero]; rfl)
      · (refine Or.inl ⟨by rfl, ?_⟩; intro w hSw; (try dsimp only at hSw); obtain ⟨hS1, hS2, hS3⟩ := hSw; go_simp; try with_reducible rfl)
      try simp only [Act.put, List.setIfInBounds_toArray, List.set_cons_zero, List.set_cons_succ]
      have HRd := hid (HR.out.1.more (Keep.refl (fun _ => False) _).drew)
      have HMd := hid (HR.out.2.1.keep (Keep.refl (fun _ => False) W1).drew (fun _ _ f => f.elim))
      have HCd := hid (show W1.drew.cell? ⟨s, 0, none⟩ = some (.pointer (some ⟨g, 0, none⟩)) ∧ W1.drew.cell? ⟨s + 5, 0, none⟩ = some (.slice (some ⟨ga, 0, none⟩) L.length c) ∧ W1.drew.cell? ⟨ga, k, none⟩ = some (.int .i64 (h : Int)) from ⟨c2, c6, cx⟩)
      have hsz1 : W1.drew.heap.size = W1.heap.size := rfl
      clear c2 c6 cx
      generalize W1.drew = wd at *
      refine wpAnyH_ready (rs := [5]) (by kernel_rfl) (by simp) ?_
      refine AllReadyH.cons rfl (fun K hK => ?_) AllReadyH.nil
      go_simp
      (with_reducible refine (outE_any wd g N l E cE po pi (HG.out.same HRd.out.same) (h : Int)).mono ?_)
      rintro e w2 ⟨rfl, rfl⟩
      have hk2 : Same wd ((wd.alloc (.cells #[.slice (some ⟨po, 0, none⟩) N N] 50)).alloc (.cells #[.int .i64 (h : Int)] 3)) := ((Keep.refl _ wd).alloc _).alloc _
      have HR2 := hid (HRd.out.more hk2)
      have HM2 := hid (HMd.out.keep hk2 (fun _ _ f => f.elim))
      have HBh := hid (Blk.made (wd.alloc (.cells #[.slice (some ⟨po, 0, none⟩) N N] 50)) 3 #[.int .i64 (h : Int)])
      have HBl := hid ((Blk.made wd 50 #[.slice (some ⟨po, 0, none⟩) N N]).alloc (.cells #[.int .i64 (h : Int)] 3))
      have hsz2 : ((wd.alloc (.cells #[.slice (some ⟨po, 0, none⟩) N N] 50)).alloc (.cells #[.int .i64 (h : Int)] 3)).heap.size = wd.heap.size + 2 := by simp only [World.size_alloc]
      have HK2 := hid (show (((wd.alloc (.cells #[.slice (some ⟨po, 0, none⟩) N N] 50)).alloc (.cells #[.int .i64 (h : Int)] 3))).cell? ⟨s, 0, none⟩ = some (.pointer (some ⟨g, 0, none⟩)) ∧ (((wd.alloc (.cells #[.slice (some ⟨po, 0, none⟩) N N] 50)).alloc (.cells #[.int .i64 (h : Int)] 3))).cell? ⟨s + 5, 0, none⟩ = some (.slice (some ⟨ga, 0, none⟩) L.length c) ∧ (((wd.alloc (.cells #[.slice (some ⟨po, 0, none⟩) N N] 50)).alloc (.cells #[.int .i64 (h : Int)] 3))).cell? ⟨ga, k, none⟩ = some (.int .i64 (h : Int)) from
        ⟨(hk2.cell (range_lt HCd.out.1) (fun f => f)).trans HCd.out.1, (hk2.cell (range_lt HCd.out.2.1) (fun f => f)).trans HCd.out.2.1, (hk2.cell (range_lt HCd.out.2.2) (fun f => f)).trans HCd.out.2.2⟩)
      rw [World.size_alloc] at HBh
      clear hk2
      generalize ((wd.alloc (.cells #[.slice (some ⟨po, 0, none⟩) N N] 50)).alloc (.cells #[.int .i64 (h : Int)] 3)) = W2 at *
      generalize wd.heap.size = z at *
      refine hK.out _ _ HK2.out (fun hHeld2 => ?_)
      clear hK K
      try simp only [Act.put, List.setIfInBounds_toArray, List.set_cons_zero, List.set_cons_succ]
      refine wpAnyH_done (by kernel_rfl) ?_ _
      refine noPanic_normal ?_
      clear hHeld hHeld2 HCd HRd HMd
      gi_wp2
      obtain ⟨Ar, cr, hrow0, hsl0⟩ := HG.out.outs.row HHN.out
      have hrow := (HR2.out.same.cell (range_lt hrow0) (fun f => f)).trans hrow0
      have hsl := hsl0.old.same HR2.out.same
      rw [HR2.out.hs] at hsl
      have htop := HR2.out.top
      have hpo : po < W2.heap.size := Nat.lt_of_lt_of_le (range_lt hrow0) HR2.out.same.size
      have hws := HR2.out.hs
      have hlo := outP_le E3.a l h l.length
      refine wpIn_rangeFunc_ownG rfl (by decide) (gf := 42) (lb := #[.pointer (some ⟨z + 1, 0, none⟩), .pointer (some ⟨z, 0, none⟩)]) rfl trivial (enters_of Tryd.func42 (by kernel_rfl) rfl)
        (enum_mem _ (by decide) (z + 1) z s po N h Ar cr (outP E3.a l h l.length) hN (by omega) W2 (by omega) (by omega) (by omega) hpo (HBh.out.at_ 0) (HBl.out.at_ 0) HHN.out hrow hsl) belowK_t (belowK_b (by omega)) (Below.refl _ _) (fun _ => rfl)
        (I2 w g N s l L ds) (fun _ _ _ => False)
        (fun pre A B row hs hg hr => by
          obtain ⟨L', h1, h2, h3, h4⟩ := hs
          exact ⟨L', h1.grownX hg (fun r e => (hr r e).2) (fun r e => by have := (hr r e).1; omega), h2, h3, ⟨h4.1, fun D hD => (hg.block D (h4.lt D hD) (fun e => by have := (hr D e.symm).1; have := HM2.out.lt D hD; omega)).trans (h4.2 D hD)⟩⟩)
        (fun _ _ _ _ _ hs _ _ => hs)
        ⟨L, HR2.out, List.prefix_refl _, by simp, HM2.out⟩ ?a1 ?assign2 ?body2 ?done2 ?stop2
      case assign2 =>
        intro l1 x W K hK
        gi_wp2
        exact hK
      case body2 =>
        rintro l1 pre ⟨y, hy⟩ W hI hlt
        obtain ⟨i, e, hi, he, hea, rfl⟩ := outP_mem.1 hy
        obtain ⟨L', hrs, hpre, htg, hmk⟩ := hI
        obtain ⟨⟨_, _⟩, ⟨q3, q4⟩, q5⟩ := HOK.out e (List.mem_of_getElem? he)
        obtain ⟨bn, hbn⟩ : ∃ n : Nat, e.b = n := ⟨_, (Int.toNat_of_nonneg q3).symm⟩
        obtain ⟨b1, o1, hE, hb1, x0, x1, x2⟩ := e3_at (HG.out.same hrs.same).edg he
        have hbN : bn < N := by omega
        have hLe := hrs.len
        have htc : (e.c != 4611686018427387904) = true := by simp; omega
        have HEe := hid (show l[i]? = some e ∧ e.b = (bn : Int) from ⟨he, hbn⟩)
        rw [hbn] at x1
        rw [hea] at x0
        clear hea
        have c2 : W.cell? ⟨s, 0, none⟩ = some (.pointer (some ⟨g, 0, none⟩)) := hrs.n2.at_ 0
        have c0 : W.cell? ⟨g, 0, none⟩ = some (.slice (some ⟨b1, o1, none⟩) l.length cE) := ((HG.out.same hrs.same).hdr.at_ 0).trans (by rw [hE]; rfl)
        have hi0 : (0 : Int) ≤ (i : Int) := Int.natCast_nonneg _
        have hi1 : (i : Int) < (l.length : Int) := by omega
        have hz := Blk.made W 62 #[.int .i64 (h : Int), .int .i64 (bn : Int), .int .i64 e.c]
        have hX := hrs.more ((Keep.refl (fun _ => False) W).alloc (.cells #[.int .i64 (h : Int), .int .i64 (bn : Int), .int .i64 e.c] 62))
        have hST := St.alloc s 0 W (.cells #[.int .i64 (h : Int), .int .i64 (bn : Int), .int .i64 e.c] 62)
        have HXp := hid (show L <+: L' ∧ (∀ y ∈ pre.map (·.1), ∀ (i : Nat) (e : E3), y = (i : Int) → l[i]? = some e → e.b ∈ L') ∧ Marks W ds from ⟨hpre, htg, hmk⟩)
        have hsW := hrs.top
        clear hpre htg hmk he hbn q3 q4 q5 hrs
        gi_upto_region 14 with fail
        clear c2 c0 x0 x1 x2
        generalize (W.alloc (.cells #[.int .i64 (h : Int), .int .i64 (bn : Int), .int .i64 e.c] 62)) = W3 at *
        have p1 : W3.cell? ⟨W.heap.size, 1, none⟩ = some (.int .i64 (bn : Int)) := hz.at_ 1
        have p2 : W3.cell? ⟨W.heap.size, 2, none⟩ = some (.int .i64 e.c) := hz.at_ 2
        have hzl := hz.lt
        have c5 : W3.cell? ⟨s + 4, 0, none⟩ = some (.slice (some ⟨s + 3, 0, none⟩) N N) := hX.h5.at_ 0
        have cq : W3.cell? ⟨s + 3, bn, none⟩ = some (.bool (decide ((bn : Int) ∈ L'))) := (hX.qs.at_ bn).trans (by rw [List.getElem?_toArray]; exact flagsL_at (N := N) (i := bn) _ hbN)
        have HI := hid hX
        have HSTp := hid hST
        have HZ := hid hz
        have hNI : (bn : Int) < (N : Int) := by omega
        have hn0 : (0 : Int) ≤ (bn : Int) := Int.natCast_nonneg _
        clear hX hST hz
        by_cases hmem : (bn : Int) ∈ L'
        · rw [decide_eq_true hmem] at cq
          have HIN := hid (show I2 w g N s l L ds (pre ++ [⟨(i : Int), hy⟩]) W3 from ⟨L', HI.out, HXp.out.1, fun y hy2 j e2 hj he2 => by
            rw [List.map_append, List.mem_append] at hy2
            rcases hy2 with hy2 | hy2
            · exact HXp.out.2.1 y hy2 j e2 hj he2
            · simp only [List.map_cons, List.map_nil, List.mem_singleton] at hy2
              have : i = j := by omega
              subst this
              rw [HEe.out.1] at he2; cases he2
              rw [HEe.out.2]; exact hmem, HXp.out.2.2.st HSTp.out.kf⟩)
          clear hmem
          gi_wp2
          exact ⟨KeepsFrom.up HSTp.out.kf, HSTp.out.below (by omega), HIN.out⟩
        · rw [decide_eq_false hmem] at cq
          have HM := hid (HI.out.mark hbN)
          obtain ⟨A, c, hb5, hown⟩ := HM.out.ls
          have HB5 := hid hb5
          have HO5 := hid hown
          have HKa := hid ((Keep.refl (fun _ => False) (W3.setCell ⟨s + 3, bn, none⟩ (.bool true))).alloc (.cells #[.int .i64 (bn : Int)] 3))
          have HOa := hid (hown.keepB HKa.out (fun _ _ f => f))
          have hsa := src_new (w := W3.setCell ⟨s + 3, bn, none⟩ (.bool true)) (cs := #[.int .i64 (bn : Int)]) (t := 3) (news := icellsC [(bn : Int)]) rfl
          have hst : (W3.setCell ⟨s + 3, bn, none⟩ (.bool true)).heap.size = W3.heap.size := by simp [World.setCell]
          rw [hst] at hsa
          have HSa := hid hsa
          have fq := HI.out.qs.free bn
          have c6 : (W3.setCell ⟨s + 3, bn, none⟩ (.bool true)).cell? ⟨s + 5, 0, none⟩ = some (.slice A L'.length c) := hb5.at_ 0
          have p1' : (W3.setCell ⟨s + 3, bn, none⟩ (.bool true)).cell? ⟨W.heap.size, 1, none⟩ = some (.int .i64 (bn : Int)) := (HZ.out.far (show W.heap.size ≠ (⟨s + 3, bn, none⟩ : Addr).block from by show W.heap.size ≠ s + 3; omega) _).at_ 1
          clear hsa hst hb5 hown
          gi_wp2_with (first
            | (gi_at_builtin; refine EInt.lawIn2 (.tmp 63) (.tmp 66) (.slice A L'.length c) (some ⟨W3.heap.size, 0, none⟩) 1 1 rfl (by rfl) (by rfl) (by rfl) (s + 6) L'.length (icellsC L') (icellsC [(bn : Int)]) (L'.length + 1) (icellsC (L' ++ [(bn : Int)])) rfl (icC_appH _ _).symm HOa.out rfl (fun _ => ⟨_, rfl, HSa.out⟩) (by intro u hu; simp [icellsC] at hu; subst hu; rfl) (by omega) (by unfold maxLen; omega) (by have := HM.out.top; have := HKa.out.size; omega) ?_; intro A7 c7 w7 ho7 hg7 hw7; have HX7 := hid (HM.out.push HKa.out HB5.out HO5.out hg7 ho7 hmem (by omega) hNI); have hb7 := (HB5.out.keep HKa.out (fun f => f)).keep ((Keep.refl (fun i => s + 6 ≤ i) _).grown hg7 (fun i e _ => HO5.out.block i e)) (by omega); have c7x : w7.cell? ⟨s + 5, 0, none⟩ = some (.slice A L'.length c) := (hb7.at_ 0).trans rfl; have f7x := hb7.free 0; have HG7 := hid hg7; clear ho7 hg7 hw7 hb7))
          have HSTq := hid (HSTp.out.trans ((((St.put 0 W3 bn (.bool true) (by omega)).trans (St.alloc s 0 _ _)).trans (St.grown 0 HOa.out HG7.out (by omega))).trans (St.put 0 _ 0 (.slice A7 (L'.length + 1) c7) (show s ≤ s + 5 by omega))))
          refine ⟨KeepsFrom.up HSTq.out.kf, HSTq.out.below (by omega), L' ++ [(bn : Int)], HX7.out, HXp.out.1.trans (List.prefix_append _ _), fun y hy2 j e2 hj he2 => ?_, HXp.out.2.2.st HSTq.out.kf⟩
          rw [List.map_append, List.mem_append] at hy2
          rcases hy2 with hy2 | hy2
          · exact List.mem_append_left _ (HXp.out.2.1 y hy2 j e2 hj he2)
          · simp only [List.map_cons, List.map_nil, List.mem_singleton] at hy2
            have : i = j := by omega
            subst this
            rw [HEe.out.1] at he2; cases he2
            rw [HEe.out.2]; exact List.mem_append_right _ (by simp)
      case stop2 =>
        rintro D c pre W _ _ h _
        exact h.elim
      case done2 =>
        rintro D ys W hD hys ⟨L', hrs, hpre, htg, hmk⟩ hKD
        have hlt := hrs.len
        have HF := hid (show RS w W g N s L' L' ∧ Marks W (D :: ds) ∧ Closed l L' (k + 1) ∧ a ∈ L' ∧ k + 1 ≤ L'.length ∧ ∀ E ∈ D :: ds, s ≤ E from
          ⟨hrs, hmk.cons hKD (fun hm => by have := HM2.out.lt D hm; omega), closed_step HR.out.2.2 hpre HXA.out.1 (fun y hy => htg y (by rw [hys]; exact hy)), hpre.subset HXA.out.2, Nat.le_trans hkn hpre.length_le, fun E hE => by
            rcases List.mem_cons.1 hE with rfl | hE
            · omega
            · exact HDS.out E hE⟩)
        have hkN : k < N := by have := hpre.length_le; omega
        clear hrs hmk htg hpre hys hKD hrow hsl hrow0 hsl0
        gi_wp2
        rw [show (k : Int) + 1 = ((k + 1 : Nat) : Int) from rfl]
        refine ⟨⟨k + 1, D :: ds, L', _, _, _, _, _, _, _, _, _, _, _, _, HF, rfl⟩, ?_⟩
        simp [RowKit.intOf]; omega
    · obtain ⟨hrs, hmk, hcl, hal, hkl, hds⟩ := HX.out
      have HDS := hid hds
      clear hds
      have hke : k = L.length := by omega
      subst hke
      obtain ⟨A, c, hb5, hown⟩ := hrs.ls
      have hlen := hrs.len
      have c6 : W1.cell? ⟨s + 5, 0, none⟩ = some (.slice A L.length c) := hb5.at_ 0
      have HOF := hid (of_any W1 (fun i => i < s + 6) A L c hown.slN (by omega))
      have HR := hid (show RS w W1 g N s L L ∧ Marks W1 ds ∧ Closed l L L.length ∧ a ∈ L from ⟨hrs, hmk, hcl, hal⟩)
      clear hrs hmk hcl hal hb5 hown HX
      gi_upto_region 17 with fail
      refine wpIn_wide.2 ?_
      go_wp2_with fail
      (with_reducible refine HOF.out.mono ?_)
      rintro e w3 ⟨v3, rfl, hs3, hk3⟩
      have HS3 := hid hs3
      have HK3 := hid hk3
      have HR4 := hid (HR.out.1.r4.keep hk3 (fun f => f))
      clear hs3 hk3 c6
      go_wp2_with (refine wpList_store_row rfl _ (.tmp 4) (.tmp 69) rfl (s + 2) #[v3] rfl rfl _ _ HR4.out (by kernel_rfl) rfl HS3.out.one ?_)
      have HRES := hid (HR4.out.row #[v3])
      have HMK := hid (HR.out.2.1.st ((KeepsFrom.of_keep 0 (HK3.out.then (Keep.refl (fun _ => False) _)) (fun _ _ f => f.elim)).trans (KeepsFrom.of_keep 0 (Keep.row w3 (s + 2) #[v3]) (fun k o e ho => by
        have e2 : k = s + 2 := e
        subst e2
        exact HR4.out.cellsOf o ho))))
      have HKW := hid (show Same w (w3.setRow (s + 2) #[v3]) from (HR.out.1.same.then HK3.out).trans (Keep.row _ _ _) (fun i hi e => by have e2 : i = s + 2 := e; have := HR.out.1.hs; omega))
      have HS5 := hid (show IsSet (w3.setRow (s + 2) #[v3]) v3 (ofW L) from ⟨HS3.out.ok, HS3.out.mem.imp id (fun ⟨g', e, b, n⟩ => ⟨g', e, Blk.keep b (Keep.row w3 (s + 2) #[v3]) (fun e2 => by
        have e3 : g' = s + 2 := e2
        subst e3
        have h1 : w3.heap[s + 2]? = _ := b
        have h2 : w3.heap[s + 2]? = _ := HR4.out
        rw [h1] at h2
        injection h2 with h2
        injection h2 with _ h3
        exact absurd h3 (by decide)), n⟩)⟩)
      have hws := HR.out.1.hs
      refine wpIn_ret ?_
      show LeavesInM Fence.wide 6 Tryd.prog Tryd.f10 _ _ (ds.map markD) .returning _
      refine leaves_marks ds _ HMK.out (fun W' hk' => ?_)
      have hrb := HRES.out.keep hk' (fun e => by
        have h1 := HMK.out.2 _ e
        have h2 : (w3.setRow (s + 2) #[v3]).heap[s + 2]? = _ := HRES.out
        rw [h1] at h2; cases h2)
      refine ⟨_, results_cell_row rfl _ _ _ _ _ _ _ rfl hrb Tryd.underlying42 rfl (by kernel_rfl), L, ⟨v3, rfl, ⟨HS5.out.ok, HS5.out.mem.imp id (fun ⟨g', e, b, n⟩ => ⟨g', e, Blk.keep b hk' (fun e2 => by
        have h1 := HMK.out.2 _ e2
        have h2 : (w3.setRow (s + 2) #[v3]).heap[g']? = _ := b
        rw [h1] at h2; cases h2), n⟩)⟩, HKW.out.trans hk' (fun i hi e => by
        have := HDS.out i e
        omega)⟩, HR.out.2.2.2, HR.out.2.2.1, HR.out.1.rg⟩
end Go.Proofs.YtnejacmmbfeneaaDoor

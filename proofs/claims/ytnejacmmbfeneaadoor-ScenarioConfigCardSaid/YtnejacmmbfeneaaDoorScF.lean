import Derived.Test.YtnejacmmbfeneaaDoorScE
namespace Go.Proofs.YtnejacmmbfeneaaDoor
open Go.RowKit

/-! ## RandomConfig: the places; the states of its loops -/
theorem one_restB {F G : Option Addr → Nat → World → Prop} {goal : Prop} (main : (∀ x c W, F x c W → G x c W) → goal) (rest : ∀ x c W, F x c W → G x c W) : goal := main rest
def rowsP (N C k : Nat) : List (List Int) := (List.range C).map fun h => plL N C h k
theorem rowsP_zero (N C : Nat) : rowsP N C 0 = List.replicate C [] := by
  rw [rowsP, show (fun h => plL N C h 0) = fun _ => [] from rfl, List.map_const', List.length_range]
theorem rowsP_at {N C h : Nat} (k : Nat) (hh : h < C) : (rowsP N C k)[h]? = some (plL N C h k) := by simp [rowsP, hh]
theorem rowsP_len (N C k : Nat) : (rowsP N C k).length = C := by simp [rowsP]
theorem rowsP_set {N C k : Nat} (hd : disN N C k < C) : (rowsP N C k).set (disN N C k) (plL N C (disN N C k) k ++ [(k : Int)]) = rowsP N C (k + 1) := by
  apply List.ext_getElem?
  intro i
  rw [List.getElem?_set]
  rcases Nat.lt_or_ge i C with hi | hi
  · by_cases e : disN N C k = i
    · subst e
      rw [if_pos rfl, if_pos (by rw [rowsP_len]; exact hd), rowsP_at _ hi, pl_snoc, if_pos rfl]
    · rw [if_neg e, rowsP_at _ hi, rowsP_at _ hi, pl_snoc, if_neg e, List.append_nil]
  · have h1 : (rowsP N C (k + 1))[i]? = none := List.getElem?_eq_none (by rw [rowsP_len]; exact hi)
    have h2 : (rowsP N C k)[i]? = none := List.getElem?_eq_none (by rw [rowsP_len]; exact hi)
    rw [h1, h2]
    by_cases e : disN N C k = i
    · omega
    · rw [if_neg e]
theorem TM.apart {S : Nat → Prop} {w0 w w' : World} {t : TypeId} {r b g base : Nat} {s : Int} {c : CF} (h : TM w0 w t r b g base s c) (hk : Keep S w w') (hS : ∀ i, S i → w0.heap.size ≤ i ∧ i ≠ r ∧ i ≠ b ∧ i ≠ g) : TM w0 w' t r b g base s c :=
  ⟨h.r0, h.b0, h.g0, h.rb, h.bb, h.gb, h.nrb, h.nrg, h.nbg, Nat.le_trans h.top hk.size, h.res.keep hk (fun e => (hS _ e).2.1 rfl), h.cfg.keep hk (fun e => (hS _ e).2.2.2 rfl),
    h.rng.keep hk (fun e => (hS _ e).2.2.1 rfl), h.keep.trans hk (fun i hi e => by have := (hS _ e).1; omega)⟩
/-- The first loop: the districts have been appended for the first k nodes, the places for the first j. -/
structure LP (w wr : World) (r b g base p : Nat) (s : Int) (N C k j : Nat) (D : Option Addr) (cD : Nat) (V : List Value) : Prop where
  tm : TM w wr 84 r b g base s { cfA C with D := D, cD := cD, dis := disP N C k }
  own : Own wr base 3 1 (.slice D k cD) k (icellsC (disP N C k))
  tb : Tbl wr base p V (rowsP N C j)
  ap : ∀ (h : Nat) (v : Value), V[h]? = some v → ∀ x, v.ownBlock = some x → (Value.slice D k cD).ownBlock ≠ some x
  p0 : w.heap.size ≤ p
  pb : p < base
  pr : p ≠ r
  pn : p ≠ b
  pg : p ≠ g
theorem slBlock {x : Option Addr} {n c : Nat} : (Value.slice x n c).ownBlock = x.map (·.block) := by cases x <;> rfl
theorem LP.d {w wr w1 w7 : World} {r b g base p : Nat} {s : Int} {N C k : Nat} {D x : Option Addr} {cD y : Nat} {V : List Value} (h : LP w wr r b g base p s N C k k D cD V) (hk : Same wr w1) (hg : w1.grownBy w7 (Value.slice D k cD).ownBlock)
    (ho : Own w7 base 3 1 (.slice x (k + 1) y) (k + 1) (icellsC (disP N C (k + 1)))) (hw : x.map (·.block) = (Value.slice D k cD).ownBlock ∨ x.map (·.block) = some w1.heap.size) :
    LP w (w7.setCell ⟨g, 1, none⟩ (.slice x (k + 1) y)) r b g base p s N C (k + 1) k x y V := by
  have h1 := h.tm.gb
  have hks := hk.size
  have hG : Keep (fun i => (Value.slice D k cD).ownBlock = some i) w1 w7 := (Keep.refl _ _).grown hg (fun x e _ => e)
  have hP : Keep (· = g) w7 (w7.setCell ⟨g, 1, none⟩ (.slice x (k + 1) y)) := (Keep.refl (· = g) w7).put 1 _
  have hpb := h.pb; have hpg := h.pg
  refine ⟨((h.tm.same hk).far hG (fun i e => h.own.block i e)).set 1 _ rfl (by simp [CF.cells, disP]), ho.keepB hP (fun i hi e => by have e2 : i = g := e; have := ho.block i hi; omega), ?_, ?_, h.p0, h.pb, h.pr, h.pn, h.pg⟩
  · refine ((h.tb.same hk).keep hG (fun e => by have := h.own.block p e; omega) (fun i v hv x hx e => h.ap i v hv x hx e)).keep hP hpg (fun i v hv x hx e => by
      have e2 : x = g := e
      have := (h.tb.blocks hv x hx).1; omega)
  · intro i v hv z hz
    have hb := h.tb.blocks hv z hz
    rw [slBlock]
    rcases hw with e | e
    · rw [e]; exact h.ap i v hv z hz
    · rw [e]; intro q; injection q with q; omega
theorem LP.place {w wr w1 w7 : World} {r b g base p : Nat} {s : Int} {N C k : Nat} {D x : Option Addr} {cD y : Nat} {V : List Value} {v : Value} (h : LP w wr r b g base p s N C (k + 1) k D cD V) (hd : disN N C k < C) (hk : Same wr w1)
    (hv : V[disN N C k]? = some v) (hg : w1.grownBy w7 v.ownBlock) (ho : Own w7 base 3 1 (.slice x ((plL N C (disN N C k) k).length + 1) y) ((plL N C (disN N C k) k).length + 1) (icellsC (plL N C (disN N C k) k ++ [(k : Int)])))
    (hw : x.map (·.block) = v.ownBlock ∨ x.map (·.block) = some w1.heap.size) :
    LP w (w7.setCell ⟨p, disN N C k, none⟩ (.slice x ((plL N C (disN N C k) k).length + 1) y)) r b g base p s N C (k + 1) (k + 1) D cD (V.set (disN N C k) (.slice x ((plL N C (disN N C k) k).length + 1) y)) := by
  have hks := hk.size
  have hG : Keep (fun i => v.ownBlock = some i) w1 w7 := (Keep.refl _ _).grown hg (fun x e _ => e)
  have hP : Keep (· = p) w7 (w7.setCell ⟨p, disN N C k, none⟩ (.slice x ((plL N C (disN N C k) k).length + 1) y)) := (Keep.refl (· = p) w7).put _ _
  have hpb := h.pb
  have ht := h.tb.same hk
  refine ⟨((h.tm.same hk).far hG (fun i e => (h.tb.blocks hv i e).1)).apart hP (fun i e => by have e2 : i = p := e; subst e2; exact ⟨h.p0, h.pr, h.pn, h.pg⟩), ?_, ?_, ?_, h.p0, h.pb, h.pr, h.pn, h.pg⟩
  · exact ((h.own.keepB hk (fun _ _ f => f)).keepB hG (fun i hi e => h.ap _ _ hv i e hi)).keepB hP (fun i hi e => by have e2 : i = p := e; have := h.own.block i hi; omega)
  · have := ht.add (news := [(k : Int)]) hv (rowsP_at (N := N) k hd) hg (by simpa [icT, icellsC] using ho) (by
      rw [slBlock]
      rcases hw with e | e
      · exact Or.inl e
      · exact Or.inr ⟨_, e, Nat.le_refl _⟩)
    rwa [rowsP_set hd] at this
  · intro i u hu z hz
    rw [List.getElem?_set] at hu
    by_cases e : disN N C k = i
    · rw [if_pos e] at hu
      split at hu
      · cases Option.some.inj hu
        rw [slBlock] at hz
        rcases hw with q | q
        · rw [q] at hz; exact h.ap _ _ hv z hz
        · rw [q] at hz; injection hz with hz
          intro f
          have := h.own.lt z f; omega
      · cases hu
    · rw [if_neg e] at hu; exact h.ap i u hu z hz
/-- The places, when all is in them. -/
def Pl (w : World) (base n1 p N C : Nat) : Prop := ∃ V : List Value, Blk w p 25 V.toArray ∧ V.length = C ∧ ∀ h, h < C → ∃ A c, V[h]? = some (.slice A (plL N C h N).length c) ∧ Sl w (fun i => i < base ∨ n1 ≤ i) 1 A (plL N C h N).length (icellsC (plL N C h N))
theorem Pl.keep {S : Nat → Prop} {w w' : World} {base n1 p N C : Nat} (h : Pl w base n1 p N C) (hk : Keep S w w') (hp : ¬ S p) (hS : ∀ i, S i → i < base ∨ n1 ≤ i) : Pl w' base n1 p N C := by
  obtain ⟨V, hb, hl, h⟩ := h
  exact ⟨V, hb.keep hk hp, hl, fun i hi => by
    obtain ⟨A, c, h1, h2⟩ := h i hi
    exact ⟨A, c, h1, h2.keep hk (fun j _ e => hS j e)⟩⟩
theorem Pl.row {w : World} {base n1 p N C h : Nat} (hP : Pl w base n1 p N C) (hh : h < C) : ∃ A c, w.cell? ⟨p, h, none⟩ = some (.slice A (plL N C h N).length c) ∧ Sl w (fun i => i < base ∨ n1 ≤ i) 1 A (plL N C h N).length (icellsC (plL N C h N)) := by
  obtain ⟨V, hb, hl, h⟩ := hP
  obtain ⟨A, c, h1, h2⟩ := h _ hh
  exact ⟨A, c, (hb.at_ _).trans (by simpa using h1), h2⟩
theorem LP.pl {w wr : World} {r b g base p : Nat} {s : Int} {N C : Nat} {D : Option Addr} {cD : Nat} {V : List Value} (h : LP w wr r b g base p s N C N N D cD V) : Pl wr base wr.heap.size p N C := by
  refine ⟨V, h.tb.blk, by rw [h.tb.len, rowsP_len], fun i hi => ?_⟩
  obtain ⟨A, c, h1, h2, _⟩ := h.tb.row (rowsP_at N hi)
  exact ⟨A, c, h1, h2.slN.wide (fun i hi h => by rcases h with h | h; exact h; omega)⟩
/-- The second and third loop. -/
structure L2u (t : TypeId) (w wr : World) (r b g base n1 p : Nat) (D : Option Addr) (cD : Nat) (N C : Nat) (E : Option Addr) (cE : Nat) (q : Int × List E3) : Prop where
  tm : TM w wr t r b g n1 q.1 { cfA C with D := D, cD := cD, dis := disL N C, E := E, cE := cE, edg := q.2 }
  own : Own wr n1 62 3 (.slice E q.2.length cE) q.2.length (e3cells q.2)
  ds : Sl wr (fun i => i < base ∨ n1 ≤ i) 1 D N (icellsC (disL N C))
  pl : Pl wr base n1 p N C
  bb : b < base
  gb : g < base
  rb : r < base
  pb : p < base
  bn : base ≤ n1
  pn : p ≠ b
  pg : p ≠ g
def L2x (w wr : World) (r b g base n1 p : Nat) (D : Option Addr) (cD : Nat) (N C : Nat) (q : Int × List E3) : Prop := ∃ E cE, L2u 84 w wr r b g base n1 p D cD N C E cE q
theorem LP.done {w wr : World} {r b g base p : Nat} {s : Int} {N C : Nat} {D : Option Addr} {cD : Nat} {V : List Value} (h : LP w wr r b g base p s N C N N D cD V) : L2x w wr r b g base wr.heap.size p D cD N C (s, []) :=
  ⟨none, 0, h.tm.rise h.tm.top (Nat.le_refl _), Own.nil _ _ _ _, h.own.slN.wide (fun i hi h => by rcases h with h | h; exact h; omega), h.pl, h.tm.bb, h.tm.gb, h.tm.rb, h.pb, h.tm.top, h.pn, h.pg⟩
section
variable {t : TypeId} {w wr w' : World} {r b g base n1 p N C : Nat} {D E : Option Addr} {cD cE : Nat} {q : Int × List E3}
theorem L2u.drawn {s : Int} (h : L2u t w wr r b g base n1 p D cD N C E cE q) (hg : Gn w' t b s) (hk : Keep (· = b) wr w') : L2u t w w' r b g base n1 p D cD N C E cE (s, q.2) :=
  ⟨h.tm.draw hg hk, h.own.keepB hk (fun x hx e => by have e2 : x = b := e; have := h.own.block x hx; have := h.tm.bb; omega), h.ds.keep hk (fun i _ e => by have e2 : i = b := e; have := h.bb; exact Or.inl (by omega)),
    h.pl.keep hk h.pn (fun i e => by have e2 : i = b := e; have := h.bb; exact Or.inl (by omega)), h.bb, h.gb, h.rb, h.pb, h.bn, h.pn, h.pg⟩
theorem L2u.same (h : L2u t w wr r b g base n1 p D cD N C E cE q) (hk : Same wr w') : L2u t w w' r b g base n1 p D cD N C E cE q :=
  ⟨h.tm.same hk, h.own.keepB hk (fun _ _ f => f), h.ds.same hk, h.pl.keep hk (fun f => f) (fun _ f => f.elim), h.bb, h.gb, h.rb, h.pb, h.bn, h.pn, h.pg⟩
theorem L2u.hd (h : L2u t w wr r b g base n1 p D cD N C E cE q) : wr.cell? ⟨g, 2, none⟩ = some (.slice E q.2.length cE) := h.tm.cfg.at_ 2
theorem L2u.step (h : L2u t w wr r b g base n1 p D cD N C E cE q) {l' : List E3} {n y : Nat} {x : Option Addr} (hk : Keep (fun i => (Value.slice E q.2.length cE).ownBlock = some i) wr w') (ho : Own w' n1 62 3 (.slice x n y) n (e3cells l')) (hn : n = l'.length) :
    L2u t w (w'.setCell ⟨g, 2, none⟩ (.slice x n y)) r b g base n1 p D cD N C x y (q.1, l') := by
  subst hn
  have hk2 : Keep (fun i => n1 ≤ i) wr w' := hk.wide (fun i _ e => h.own.block i e)
  have hp : Keep (· = g) w' (w'.setCell ⟨g, 2, none⟩ (.slice x l'.length y)) := (Keep.refl (· = g) w').put 2 _
  have h1 := h.bb; have h2 := h.gb; have h3 := h.bn; have h4 := h.tm.gb; have h5 := h.pb
  exact ⟨(h.tm.far hk2 (fun _ e => e)).set 2 _ rfl (by simp [CF.cells]), ho.keepB hp (fun i hi e => by have e2 : i = g := e; have := ho.block i hi; omega),
    (h.ds.keep hk2 (fun i _ e => Or.inr e)).keep hp (fun i _ e => Or.inl (by have e2 : i = g := e; omega)),
    (h.pl.keep hk2 (fun e => by have e2 : n1 ≤ p := e; omega) (fun i e => Or.inr e)).keep hp h.pg (fun i e => Or.inl (by have e2 : i = g := e; omega)), h1, h2, h.rb, h5, h3, h.pn, h.pg⟩
theorem L2u.atg (h : L2u t w wr r b g base n1 p D cD N C E cE q) (hk : Keep (fun i => (Value.slice E q.2.length cE).ownBlock = some i) wr w') : w'.cell? ⟨g, 2, none⟩ = some (.slice E q.2.length cE) ∧ w'.frozen? ⟨g, 2, none⟩ = false := by
  have h4 := h.tm.gb
  have hb := h.tm.cfg.keep hk (fun e => by have := h.own.block g e; omega)
  exact ⟨hb.at_ 2, hb.free 2⟩
/-- The fourth loop: with the places and the weights. -/
structure L4x (t : TypeId) (w wr : World) (r b g base n1 n2 p q : Nat) (D : Option Addr) (cD : Nat) (E : Option Addr) (cE : Nat) (N C : Nat) (el : List E3) (U : Option Addr) (cU : Nat) (x : Int × List E3) : Prop where
  u : L4u t w wr r b g base n1 n2 D cD E cE N C el U cU x
  pl : Pl wr base n1 p N C
  ws : Sl wr (fun i => i < base ∨ n2 ≤ i) 1 (some ⟨q, 0, none⟩) 4 (wts.map (.int .i64))
  rb : r < base
  pb : p < base
  n12 : n1 ≤ n2
  pn : p ≠ b
  pg : p ≠ g
end
section
variable {t : TypeId} {w wr w' : World} {r b g base n1 n2 p q N C : Nat} {D E U : Option Addr} {cD cE cU : Nat} {el : List E3} {x : Int × List E3}
theorem L4x.start (h : L2u t w wr r b g base n1 p D cD N C E cE x) : L4x t w (wr.alloc (.cells #[.int .i64 6, .int .i64 2, .int .i64 1, .int .i64 1] 3)) r b g base n1 (wr.heap.size + 1) p wr.heap.size D cD E cE N C x.2 none 0 (x.1, []) := by
  have hk : Same wr (wr.alloc (.cells #[.int .i64 6, .int .i64 2, .int .i64 1, .int .i64 1] 3)) := (Keep.refl _ _).alloc _
  have hb := Blk.made wr 3 #[.int .i64 6, .int .i64 2, .int .i64 1, .int .i64 1]
  have ht := h.tm.top
  have hbn := h.bn
  have h2 := h.same hk
  have hz : (wr.alloc (.cells #[.int .i64 6, .int .i64 2, .int .i64 1, .int .i64 1] 3)).heap.size = wr.heap.size + 1 := World.size_alloc _ _
  exact ⟨⟨h2.tm.rise (by omega) (by omega), Own.nil _ _ _ _, h2.ds.wide (fun i hi h => h.imp id (fun h => by omega)), h2.own.slN.wide (fun i hi h => by rcases h with h | h; exact h; omega), h.bb, h.gb, h.bn⟩, h2.pl,
    Sl.of_blk (n := 4) (size := 1) hb rfl (fun e => by rcases e with e | e <;> omega), h.rb, h.pb, by omega, h.pn, h.pg⟩
theorem L4x.drawn {s : Int} (h : L4x t w wr r b g base n1 n2 p q D cD E cE N C el U cU x) (hg : Gn w' t b s) (hk : Keep (· = b) wr w') : L4x t w w' r b g base n1 n2 p q D cD E cE N C el U cU (s, x.2) :=
  ⟨h.u.drawn hg hk, h.pl.keep hk h.pn (fun i e => by have e2 : i = b := e; have := h.u.bb; exact Or.inl (by omega)), h.ws.keep hk (fun i _ e => by have e2 : i = b := e; have := h.u.bb; exact Or.inl (by omega)), h.rb, h.pb, h.n12, h.pn, h.pg⟩
theorem L4x.same (h : L4x t w wr r b g base n1 n2 p q D cD E cE N C el U cU x) (hk : Same wr w') : L4x t w w' r b g base n1 n2 p q D cD E cE N C el U cU x :=
  ⟨h.u.same hk, h.pl.keep hk (fun f => f) (fun _ f => f.elim), h.ws.same hk, h.rb, h.pb, h.n12, h.pn, h.pg⟩
theorem L4x.step (h : L4x t w wr r b g base n1 n2 p q D cD E cE N C el U cU x) {l' : List E3} {n y : Nat} {z : Option Addr} (hg : wr.grownBy w' (Value.slice U x.2.length cU).ownBlock) (ho : Own w' n2 55 3 (.slice z n y) n (e3cells l')) (hn : n = l'.length) :
    L4x t w (w'.setCell ⟨g, 3, none⟩ (.slice z n y)) r b g base n1 n2 p q D cD E cE N C el z y (x.1, l') := by
  have hk : Keep (fun i => n2 ≤ i) wr w' := (Keep.refl _ _).grown hg (fun x e _ => h.u.own.block x e)
  have hp : Keep (· = g) w' (w'.setCell ⟨g, 3, none⟩ (.slice z n y)) := (Keep.refl (· = g) w').put 3 _
  have h1 := h.u.bb; have h2 := h.u.gb; have h3 := h.u.bn; have h4 := h.pb; have h5 := h.n12
  exact ⟨h.u.step hg ho hn, (h.pl.keep hk (fun e => by have e2 : n2 ≤ p := e; omega) (fun i e => Or.inr (by have e2 : n2 ≤ i := e; omega))).keep hp h.pg (fun i e => Or.inl (by have e2 : i = g := e; omega)),
    (h.ws.keep hk (fun i _ e => Or.inr e)).keep hp (fun i _ e => Or.inl (by have e2 : i = g := e; omega)), h.rb, h.pb, h.n12, h.pn, h.pg⟩
end
def L4z (w wr : World) (r b g base n1 n2 p q : Nat) (D : Option Addr) (cD : Nat) (E : Option Addr) (cE : Nat) (N C : Nat) (el : List E3) (x : Int × List E3) : Prop := ∃ U cU, L4x 84 w wr r b g base n1 n2 p q D cD E cE N C el U cU x

set_option maxRecDepth 100000 in
set_option maxHeartbeats 4000000 in
theorem random_ok (w : World) (N C U : Nat) (s : Int) (h1 : 1 ≤ C) (h2 : C ≤ 9) (h3 : C ≤ N) (h4 : N ≤ 64) (h6 : U ≤ 256) (s0 : 0 ≤ s) (s1 : s ≤ 18446744073709551615) :
    Calls Tryd.prog 4 #[.int .i64 N, .int .i64 C, .int .i64 U, .int .u64 s] w (TownPost w N C U s) := by
  have h5 : (0 : Int) ≤ (U : Int) := Int.natCast_nonneg _
  have hz := Blk.made w 30 z15.toArray
  have HK := hid ((Keep.refl (fun _ => False) w).alloc (.cells z15.toArray 30))
  have HDE := hid default_any
  simp only [z15] at hz HK
  have hmk := fun W => EInts.make .i64 .i64 C C (by omega) (by omega) (by omega) (by omega) W
  go_enter Tryd.func4, Tryd.ntmps4
  go_upto_region 1 with fail
  generalize (w.alloc (.cells #[.int .i64 0, .slice none 0 0, .slice none 0 0, .slice none 0 0, .slice none 0 0, .int .i64 0, .int .i64 0, .int .i64 0, .int .i64 0, .int .i64 0, .int .i64 0, .int .i64 0, .int .i64 0, .int .i64 0, .int .i64 0] 30)) = w1 at *
  have HZ := hid hz
  clear hz
  go_upto_region 3 with fail
  go_wp2_with fail
  (with_reducible refine (newrand_any _ s s0 s1).mono ?_)
  rintro e w2 ⟨rfl, rfl⟩
  have hd := Gn.new (w := w1) (t := 84) s0 s1
  have hk := (Keep.refl (fun _ => False) w1).alloc (.cells #[.int .u64 s] 84)
  have hbl := HZ.out.lt
  generalize (w1.alloc (.cells #[.int .u64 s] 84)) = w2 at *
  have HD := hid hd
  have HZ2 := hid (HZ.out.keep hk (fun f => f))
  have HK2 := hid (HK.out.then hk)
  have HBL := hid hbl
  clear hd hk hbl HZ HK
  go_wp2_with fail
  (with_reducible refine (HDE.out _).mono ?_)
  rintro e w3 ⟨rfl, hk3⟩
  have HD3 := hid (HD.out.keep (S := fun _ => False) hk3 (fun f => f))
  have HZ3 := hid (HZ2.out.keep hk3 (fun f => f))
  have HK3 := hid (HK2.out.then hk3)
  clear hk3 HD HZ2 HK2
  go_upto_region 5 with (refine wpList_store_row rfl _ (.tmp 11) (.tmp 50) rfl w3.heap.size dflt.cells.toArray rfl rfl _ _ (Blk.made w3 30 z15.toArray) (by kernel_rfl) rfl (one_toArray (CF.one dflt)) ?_)
  have hB := (Blk.made w3 30 z15.toArray).row dflt.cells.toArray
  have hK : Same w3 ((w3.alloc (.cells z15.toArray 30)).setRow w3.heap.size dflt.cells.toArray) := ((Keep.refl _ w3).alloc _).trans (Keep.row _ _ _) (fun i hi e => by have e2 : i = w3.heap.size := e; omega)
  simp only [z15] at hB hK ⊢
  generalize ((w3.alloc (.cells #[.int .i64 0, .slice none 0 0, .slice none 0 0, .slice none 0 0, .slice none 0 0, .int .i64 0, .int .i64 0, .int .i64 0, .int .i64 0, .int .i64 0, .int .i64 0, .int .i64 0, .int .i64 0, .int .i64 0, .int .i64 0] 30)).setRow w3.heap.size dflt.cells.toArray) = w4 at *
  have b0 : w4.cell? ⟨w3.heap.size, 0, none⟩ = some (.int .i64 0) := hB.at_ 0
  have f0 := hB.free 0
  have HB := hid hB
  have HKW := hid hK
  clear hB hK
  go_upto_region 6 with fail
  have hT4 : TM w w4 84 w.heap.size w1.heap.size w3.heap.size w4.heap.size s dflt :=
    ⟨Nat.le_refl _, Nat.le_of_lt HBL.out, HK3.out.size, Nat.lt_of_lt_of_le HZ3.out.lt HKW.out.size, Nat.lt_of_lt_of_le HD3.out.blk.lt HKW.out.size, HB.out.lt, Nat.ne_of_lt HBL.out, Nat.ne_of_lt HZ3.out.lt, Nat.ne_of_lt HD3.out.blk.lt, Nat.le_refl _,
      HZ3.out.keep HKW.out (fun f => f), HB.out, HD3.out.keep (S := fun _ => False) HKW.out (fun f => f), HK3.out.then HKW.out⟩
  have hT5 := hT4.set (c' := cfA C) 0 (.int .i64 C) rfl rfl
  have hz5 : (w4.setCell ⟨w3.heap.size, 0, none⟩ (.int .i64 C)).heap.size = w4.heap.size := by simp [World.setCell]
  clear b0 f0 HB HKW HZ3 HD3 HK3 hT4 HBL
  generalize (w4.setCell ⟨w3.heap.size, 0, none⟩ (.int .i64 C)) = w5 at *
  rw [← hz5] at hT5
  clear hz5
  have HT5 := hid hT5
  clear hT5
  go_upto_region 7 with fail
  have HL0 := hid (show LP w (w5.alloc (.cells (madeCells #[.slice none 0 0] C) 25)) w.heap.size w1.heap.size w3.heap.size (w5.heap.size + 1) w5.heap.size s N C 0 0 none 0 (List.replicate C (.slice none 0 0)) from by
    have e : (madeCells #[.slice none 0 0] C) = (List.replicate C (Value.slice none 0 0)).toArray := by
      rw [← Array.toList_inj, toList_madeCells_one]
    rw [e]
    have hk : Same w5 (w5.alloc (.cells (List.replicate C (Value.slice none 0 0)).toArray 25)) := (Keep.refl _ _).alloc _
    have ht := HT5.out
    have q1 := ht.rb; have q2 := ht.bb; have q3 := ht.gb; have q4 := ht.r0; have q5 := ht.top
    refine ⟨((ht.same hk).rise (by omega) (by simp)), Own.nil _ _ _ _, by rw [rowsP_zero]; exact Tbl.made w5 _ C, ?_, by omega, by omega, by omega, by omega, by omega⟩
    intro h v hv x hx
    rw [rep_some hv] at hx
    simp [Value.ownBlock] at hx)
  clear HT5 hmk
  try simp only [World.size_alloc, Nat.mul_one] at *
  generalize (w5.alloc (.cells (madeCells #[.slice none 0 0] C) 25)) = w6 at *
  generalize w5.heap.size = p at *
  generalize w.heap.size = r at *
  generalize w1.heap.size = b at *
  generalize w3.heap.size = g at *
  generalize p + 1 = base at *
  go_wp2_with fail
  go_loopw [56] (fun i wr => ∃ k : Nat, k ≤ N ∧ i = .int .i64 k ∧ Hid (∃ D cD V, LP w wr r b g base p s N C k k D cD V)) (fun i _ => N - (RowKit.intOf i).toNat)
  case atStart => exact ⟨0, Nat.zero_le _, rfl, none, 0, _, HL0.out⟩
  case round =>
    obtain ⟨k, hk, rfl, HL⟩ := hrel
    clear HL0
    by_cases hkn : k < N
    · obtain ⟨D, cD, V, hl⟩ := HL.out
      have HX := hid hl
      have hd0 : IntKind.i64.wrap ((k : Int) * (C : Int)) = ((k * C : Nat) : Int) := by
        have : k * C ≤ 64 * 9 := Nat.mul_le_mul (by omega) h2
        rw [← Int.natCast_mul, IntKind.wrap_i64]
        generalize k * C = m at this ⊢
        omega
      have hdl : disN N C k < C := (disN_lt (c := C) hkn).resolve_right (by omega)
      have hdv : IntKind.i64.wrap (((k : Int) * (C : Int)).tdiv (N : Int)) = ((disN N C k : Nat) : Int) := by
        rw [← Int.natCast_mul, Int.tdiv_eq_ediv_of_nonneg (Int.natCast_nonneg _), ← Int.natCast_ediv, IntKind.wrap_i64]
        show _ = ((k * C / N : Nat) : Int)
        have : k * C / N < C := hdl
        generalize k * C / N = m at this ⊢
        omega
      have hdw : ((k : Int) * (C : Int)) / (N : Int) = ((disN N C k : Nat) : Int) := by
        rw [← Int.natCast_mul, ← Int.natCast_ediv]; rfl
      have hN0 : (N = 0) = False := by simp; omega
      have hk1 := hid h1
      clear hl HL h1
      go_upto_region 11 with fail
      try simp only [hdw]
      clear hd0 hdv hdw hN0
      obtain ⟨d, hdd⟩ : ∃ d, d = disN N C k := ⟨_, rfl⟩
      have hkl : k ≤ 64 := by omega
      have c1 : wr.cell? ⟨g, 1, none⟩ = some (.slice D k cD) := (HX.out.tm.cfg.at_ 1).trans (by simp [CF.cells, disP])
      have f1 := HX.out.tm.cfg.free 1
      have HKA := hid ((Keep.refl (fun _ => False) wr).alloc (.cells #[.int .i64 ((disN N C k : Nat) : Int)] 3))
      have HOA := hid (HX.out.own.keepB HKA.out (fun _ _ f => f))
      have HSA := hid (src_new (w := wr) (cs := #[.int .i64 ((disN N C k : Nat) : Int)]) (t := 3) (news := icellsC [((disN N C k : Nat) : Int)]) rfl)
      clear hdd
      go_upto_region 12 with (refine EInt.law2 (.tmp 65) (.tmp 67) (.slice D k cD) (some ⟨wr.heap.size, 0, none⟩) 1 1 rfl rfl rfl rfl base k (icellsC (disP N C k)) (icellsC [((disN N C k : Nat) : Int)]) (k + 1) (icellsC (disP N C (k + 1))) rfl (by rw [disP_snoc, icC_app]) HOA.out rfl (fun _ => ⟨_, rfl, HSA.out⟩) (by intro u hu; simp [icellsC] at hu; subst hu; rfl) (by omega) (by unfold maxLen; omega) (Nat.le_trans HX.out.tm.top HKA.out.size) ?_; intro A7 c7 w7 ho7 hg7 hw7; have HX7 := hid (HX.out.d HKA.out hg7 ho7 hw7); have ht7 := ((HX.out.tm.same HKA.out).far ((Keep.refl (fun i => base ≤ i) _).grown hg7 (fun x e _ => HX.out.own.block x e)) (fun i e => e)); have c3 : w7.cell? ⟨g, 1, none⟩ = some (.slice D k cD) := (ht7.cfg.at_ 1).trans (by simp [CF.cells, disP]); have f3 := ht7.cfg.free 1; clear ho7 hg7 hw7 ht7)
      clear c1 f1 c3 f3 HX HKA HOA HSA
      generalize (w7.setCell ⟨g, 1, none⟩ (.slice A7 (k + 1) c7)) = v1 at *
      obtain ⟨PA, pc, hV, hPo, hPc⟩ := HX7.out.tb.row (rowsP_at k hdl)
      have HV := hid hV
      have HPo := hid hPo
      have fP := HX7.out.tb.blk.free (disN N C k)
      have hll := pl_le N C (disN N C k) k
      have hi0 : (0 : Int) ≤ ((disN N C k : Nat) : Int) := Int.natCast_nonneg _
      have hi1 : ((disN N C k : Nat) : Int) < (C : Int) := by omega
      have HKB := hid ((Keep.refl (fun _ => False) v1).alloc (.cells #[.int .i64 (k : Int)] 3))
      have HOB := hid (hPo.keepB HKB.out (fun _ _ f => f))
      have HSB := hid (src_new (w := v1) (cs := #[.int .i64 (k : Int)]) (t := 3) (news := icellsC [(k : Int)]) rfl)
      clear hV hPo
      go_upto_region 13 with (refine EInt.law2 (.tmp 75) (.tmp 77) (.slice PA (plL N C (disN N C k) k).length pc) (some ⟨v1.heap.size, 0, none⟩) 1 1 rfl rfl rfl rfl base (plL N C (disN N C k) k).length (icT (plL N C (disN N C k) k)) (icellsC [(k : Int)]) ((plL N C (disN N C k) k).length + 1) (icellsC (plL N C (disN N C k) k ++ [(k : Int)])) rfl (by simp [icT, icellsC]) HOB.out rfl (fun _ => ⟨_, rfl, HSB.out⟩) (by intro u hu; simp [icellsC] at hu; subst hu; rfl) (by omega) (by unfold maxLen; omega) (Nat.le_trans HX7.out.tm.top HKB.out.size) ?_; intro A8 c8 w8 ho8 hg8 hw8; have HX8 := hid (HX7.out.place hdl HKB.out HV.out hg8 ho8 hw8); have hb8 := (HX7.out.tb.blk.keep HKB.out (fun f => f)).keep ((Keep.refl (fun i => (Value.slice PA (plL N C (disN N C k) k).length pc).ownBlock = some i) _).grown hg8 (fun x e _ => e)) (HX7.out.tb.off _ _ HV.out); have c4 : w8.cell? ⟨p, disN N C k, none⟩ = some (.slice PA (plL N C (disN N C k) k).length pc) := (hb8.at_ _).trans (by simpa using HV.out); have f4 := hb8.free (disN N C k); clear ho8 hg8 hw8 hb8)
      clear hPc fP hll hi0 hi1 HKB HOB HSB HV HPo c4 f4
      go_wp2_with fail
      go_round
      case rel => exact ⟨k + 1, by omega, by go_num, A7, c7, _, HX8.out⟩
      case measure => simp [RowKit.intOf]; omega
    · obtain rfl : k = N := by omega
      obtain ⟨D, cD, V, hl⟩ := HL.out
      have HL2 := hid hl.done
      have hN : 1 ≤ k := by omega
      clear hl HL
      generalize wr.heap.size = n1 at *
      go_upto_if 82 with fail
      go_cut [] from 82 to 99 (fun w' => Hid (L2x w w' r b g base n1 p D cD k C (ring k s)))
      case first =>
        by_cases hk1 : 1 < k
        · have HRG := hid (show ring k s = ringS k s k by rw [ring, if_pos hk1])
          go_wp2_with fail
          have hdec : decide ((1 : Int) < (k : Int)) = true := by simp; omega
          simp only [hdec]
          clear hdec
          go_loopw [84] (fun i wq => ∃ j : Nat, j ≤ k ∧ i = .int .i64 j ∧ Hid (L2x w wq r b g base n1 p D cD k C (ringS k s j))) (fun i _ => k - (RowKit.intOf i).toNat)
          case atStart => exact ⟨0, Nat.zero_le _, rfl, HL2⟩
          case round =>
            obtain ⟨j, hj, rfl, HL⟩ := hrel
            clear HL2
            by_cases hjk : j < k
            · obtain ⟨E, cE, HXu⟩ := HL.out
              have HX := hid HXu
              clear HXu HL
              obtain ⟨q0, q1⟩ := roll9 (ringS k s j).1
              obtain ⟨m1, hm1⟩ : ∃ m : Nat, m = j + 1 := ⟨_, rfl⟩
              obtain ⟨m, hm⟩ : ∃ m : Nat, m = (j + 1) % k := ⟨_, rfl⟩
              obtain ⟨t, ht⟩ : ∃ t : Int, t = 1 + roll 9 (ringS k s j).1 := ⟨_, rfl⟩
              obtain ⟨t9, ht9⟩ : ∃ t : Int, roll 9 (ringS k s j).1 = t := ⟨_, rfl⟩
              have hml := Nat.mod_lt (j + 1) (show 0 < k by omega)
              rw [← hm] at hml
              have HST := hid (show ringS k s (j + 1) = (aft 9 (ringS k s j).1, (ringS k s j).2 ++ two (j : Int) (m : Int) t) by rw [hm, ht]; rfl)
              have HLN := hid ((ring_ok (n := k) s j (by omega)).2)
              have hw1 : IntKind.i64.wrap ((j : Int) + 1) = (m1 : Int) := by rw [IntKind.wrap_i64]; omega
              have hw2 : IntKind.i64.wrap ((m1 : Int).tmod (k : Int)) = (m : Int) := by
                rw [Int.tmod_eq_emod_of_nonneg (Int.natCast_nonneg _), ← Int.natCast_emod, hm1, ← hm, IntKind.wrap_i64]; omega
              have hw2b : (m1 : Int).tmod (k : Int) = (m : Int) := by
                rw [Int.tmod_eq_emod_of_nonneg (Int.natCast_nonneg _), ← Int.natCast_emod, hm1, ← hm]
              have hw3 : IntKind.i64.wrap (1 + t9) = t := by rw [IntKind.wrap_i64]; omega
              have HR9 := hid ht9
              have hk0 : (k = 0) = False := by simp; omega
              clear hm1 hm ht q0 q1 ht9
              generalize ringS k s j = x at *
              go_upto_region 18 with fail
              refine wp_region_held_drew (S := fun _ => True) (by kernel_rfl) trivial (fun hHeld => ?_)
              refine takeO (i := 0) (v := ?_) (by kernel_rfl) (by kernel_rfl) (by kernel_rfl) (fun c a d v w h => by cases d <;> exact h) (oi := ?_) ?_ ?_ (by assumption) ?_
              rotate_left 2
              · (simp only [List.getElem?_toArray, List.getElem?_cons_zero]; rfl)
              · (refine Or.inl ⟨by rfl, ?_⟩; intro w hSw; (try dsimp only at hSw); go_simp; try with_reducible rfl)
              try simp only [Act.put, List.setIfInBounds_toArray, List.set_cons_zero, List.set_cons_succ]
              refine takeO (i := 2) (v := ?_) (by kernel_rfl) (by kernel_rfl) (by kernel_rfl) (fun c a d v w h => by cases d <;> exact h) (oi := ?_) ?_ ?_ (by assumption) ?_
              rotate_left 2
              · (simp only [List.getElem?_toArray, List.getElem?_cons_succ, List.getElem?_cons_zero]; rfl)
              · (refine Or.inl ⟨by rfl, ?_⟩; intro w hSw; (try dsimp only at hSw); go_simp; try with_reducible rfl)
              try simp only [Act.put, List.setIfInBounds_toArray, List.set_cons_zero, List.set_cons_succ]
              refine takeO (i := 3) (v := ?_) (by kernel_rfl) (by kernel_rfl) (by kernel_rfl) (fun c a d v w h => by cases d <;> exact h) (oi := ?_) ?_ ?_ (by assumption) ?_
              rotate_left 2
              · (simp only [List.getElem?_toArray, List.getElem?_cons_succ, List.getElem?_cons_zero]; rfl)
              · (refine Or.inl ⟨by rfl, ?_⟩; intro w hSw; (try dsimp only at hSw); go_simp; try with_reducible rfl)
              try simp only [Act.put, List.setIfInBounds_toArray, List.set_cons_zero, List.set_cons_succ]
              refine takeO (i := 4) (v := ?_) (by kernel_rfl) (by kernel_rfl) (by kernel_rfl) (fun c a d v w h => by cases d <;> exact h) (oi := ?_) ?_ ?_ (by assumption) ?_
              rotate_left 2
              · (simp only [List.getElem?_toArray, List.getElem?_cons_succ, List.getElem?_cons_zero]; rfl)
              · (refine Or.inl ⟨by rfl, ?_⟩; intro w hSw; (try dsimp only at hSw); go_simp; try with_reducible rfl)
              try simp only [Act.put, List.setIfInBounds_toArray, List.set_cons_zero, List.set_cons_succ]
              refine takeO (i := 5) (v := ?_) (by kernel_rfl) (by kernel_rfl) (by kernel_rfl) (fun c a d v w h => by cases d <;> exact h) (oi := ?_) ?_ ?_ (by assumption) ?_
              rotate_left 2
              · (simp only [List.getElem?_toArray, List.getElem?_cons_succ, List.getElem?_cons_zero]; rfl)
              · (refine Or.inl ⟨by rfl, ?_⟩; intro w hSw; (try dsimp only at hSw); go_simp; try with_reducible rfl)
              try simp only [Act.put, List.setIfInBounds_toArray, List.set_cons_zero, List.set_cons_succ]
              refine takeO (i := 6) (v := ?_) (by kernel_rfl) (by kernel_rfl) (by kernel_rfl) (fun c a d v w h => by cases d <;> exact h) (oi := ?_) ?_ ?_ (by assumption) ?_
              rotate_left 2
              · (simp only [List.getElem?_toArray, List.getElem?_cons_succ, List.getElem?_cons_zero]; rfl)
              · (refine Or.inl ⟨by rfl, ?_⟩; intro w hSw; (try dsimp only at hSw); go_simp; try with_reducible rfl)
              try simp only [Act.put, List.setIfInBounds_toArray, List.set_cons_zero, List.set_cons_succ]
              refine takeO (i := 7) (v := ?_) (by kernel_rfl) (by kernel_rfl) (by kernel_rfl) (fun c a d v w h => by cases d <;> exact h) (oi := ?_) ?_ ?_ (by assumption) ?_
              rotate_left 2
              · (simp only [List.getElem?_toArray, List.getElem?_cons_succ, List.getElem?_cons_zero]; rfl)
              · (refine Or.inl ⟨by rfl, ?_⟩; intro w hSw; (try dsimp only at hSw); go_simp; try with_reducible rfl)
              try simp only [Act.put, List.setIfInBounds_toArray, List.set_cons_zero, List.set_cons_succ]
              have HXd := hid (HX.out.same (Keep.refl (fun _ => False) _).drew)
              clear hHeld
              generalize wr.drew = wd at *
              apply one_restB (F := fun _ _ W => L2x w W r b g base n1 p D cD k C (ringS k s (j + 1)))
              case main =>
                intro REST
                refine wpAnyH_ready (rs := [1, 8]) (by kernel_rfl) (by simp) ?_
                refine AllReadyH.cons rfl (fun K hK => ?_) (AllReadyH.cons rfl (fun K hK => ?_) AllReadyH.nil)
                · have e1 := HXd.out.hd
                  go_simp
                  clear e1
                  refine hK.out _ _ trivial (fun hHeld1 => ?_)
                  clear hK K
                  try simp only [Act.put, List.setIfInBounds_toArray, List.set_cons_zero, List.set_cons_succ]
                  refine wpAnyH_ready (rs := [8]) (by kernel_rfl) (by simp) ?_
                  refine AllReadyH.cons rfl (fun K hK => ?_) AllReadyH.nil
                  · go_simp
                    (with_reducible refine (intn_any wd b x.1 9 HXd.out.tm.rng (by omega)).mono ?_)
                    rintro e q2 ⟨rfl, hg, hk⟩
                    have HX2 := hid (show L2u _ w q2 r b g base n1 p D cD k C E cE (aft 9 x.1, x.2) from HXd.out.drawn hg hk)
                    clear hg hk
                    rw [HR9.out]
                    refine hK.out _ _ trivial (fun hHeld2 => ?_)
                    clear hK K
                    try simp only [Act.put, List.setIfInBounds_toArray, List.set_cons_zero, List.set_cons_succ]
                    refine takeO (i := 9) (v := ?_) (by kernel_rfl) (by kernel_rfl) (by kernel_rfl) (fun c a d v w h => by cases d <;> exact h) (oi := ?_) ?_ ?_ (by assumption) ?_
                    rotate_left 2
                    · (simp only [List.getElem?_toArray, List.getElem?_cons_succ, List.getElem?_cons_zero]; rfl)
                    · (refine Or.inl ⟨by rfl, ?_⟩; intro w hSw; (try dsimp only at hSw); go_simp; try with_reducible rfl)
                    try simp only [Act.put, List.setIfInBounds_toArray, List.set_cons_zero, List.set_cons_succ]
                    refine wpAnyH_ready (rs := [10]) (by kernel_rfl) (by simp) ?_
                    refine AllReadyH.cons rfl (fun K hK => ?_) AllReadyH.nil
                    · go_simp
                      (with_reducible refine (addroad_any q2 n1 E cE x.2 (j : Int) (m : Int) t HX2.out.own HX2.out.tm.top (by have := HLN.out; omega)).mono ?_)
                      rintro e w7 ⟨A7, c7, rfl, ho7, hk7, hw7⟩
                      have HX7 := hid (HX2.out.step hk7 ho7 (by simp [two]))
                      obtain ⟨x2, x3⟩ := HX2.out.atg hk7
                      clear ho7 hk7 hw7
                      refine hK.out _ _ trivial (fun hHeld3 => ?_)
                      clear hK K
                      try simp only [Act.put, List.setIfInBounds_toArray, List.set_cons_zero, List.set_cons_succ]
                      refine takeO (i := 11) (v := ?_) (by kernel_rfl) (by kernel_rfl) (by kernel_rfl) (fun c a d v w h => by cases d <;> exact h) (oi := ?_) ?_ ?_ (by assumption) ?_
                      rotate_left 2
                      · (simp only [List.getElem?_toArray, List.getElem?_cons_succ, List.getElem?_cons_zero]; rfl)
                      · (refine Or.inl ⟨by rfl, ?_⟩; intro w hSw; (try dsimp only at hSw); go_simp; try with_reducible rfl)
                      try simp only [Act.put, List.setIfInBounds_toArray, List.set_cons_zero, List.set_cons_succ]
                      refine wpAnyH_ready (rs := [12]) (by kernel_rfl) (by simp) ?_
                      refine AllReadyH.cons rfl (fun K hK => ?_) AllReadyH.nil
                      go_simp
                      refine hK.out _ _ trivial (fun hHeldZ => ?_)
                      clear hK K
                      try simp only [Act.put, List.setIfInBounds_toArray, List.set_cons_zero, List.set_cons_succ]
                      refine wpAnyH_done (by kernel_rfl) ?_ _
                      exact REST A7 c7 _ (by rw [HST.out]; exact ⟨A7, c7, HX7.out⟩)
                · go_simp
                  (with_reducible refine (intn_any wd b x.1 9 HXd.out.tm.rng (by omega)).mono ?_)
                  rintro e q4 ⟨rfl, hg, hk⟩
                  have HX4 := hid (show L2u _ w q4 r b g base n1 p D cD k C E cE (aft 9 x.1, x.2) from HXd.out.drawn hg hk)
                  clear hg hk
                  rw [HR9.out]
                  refine hK.out _ _ trivial (fun hHeld4 => ?_)
                  clear hK K
                  try simp only [Act.put, List.setIfInBounds_toArray, List.set_cons_zero, List.set_cons_succ]
                  refine takeO (i := 9) (v := ?_) (by kernel_rfl) (by kernel_rfl) (by kernel_rfl) (fun c a d v w h => by cases d <;> exact h) (oi := ?_) ?_ ?_ (by assumption) ?_
                  rotate_left 2
                  · (simp only [List.getElem?_toArray, List.getElem?_cons_succ, List.getElem?_cons_zero]; rfl)
                  · (refine Or.inl ⟨by rfl, ?_⟩; intro w hSw; (try dsimp only at hSw); go_simp; try with_reducible rfl)
                  try simp only [Act.put, List.setIfInBounds_toArray, List.set_cons_zero, List.set_cons_succ]
                  refine wpAnyH_ready (rs := [1]) (by kernel_rfl) (by simp) ?_
                  refine AllReadyH.cons rfl (fun K hK => ?_) AllReadyH.nil
                  · have e5 := HX4.out.hd
                    go_simp
                    clear e5
                    refine hK.out _ _ trivial (fun hHeld5 => ?_)
                    clear hK K
                    try simp only [Act.put, List.setIfInBounds_toArray, List.set_cons_zero, List.set_cons_succ]
                    refine wpAnyH_ready (rs := [10]) (by kernel_rfl) (by simp) ?_
                    refine AllReadyH.cons rfl (fun K hK => ?_) AllReadyH.nil
                    · go_simp
                      (with_reducible refine (addroad_any q4 n1 E cE x.2 (j : Int) (m : Int) t HX4.out.own HX4.out.tm.top (by have := HLN.out; omega)).mono ?_)
                      rintro e w7 ⟨A7, c7, rfl, ho7, hk7, hw7⟩
                      have HX7 := hid (HX4.out.step hk7 ho7 (by simp [two]))
                      obtain ⟨x2, x3⟩ := HX4.out.atg hk7
                      clear ho7 hk7 hw7
                      refine hK.out _ _ trivial (fun hHeld6 => ?_)
                      clear hK K
                      try simp only [Act.put, List.setIfInBounds_toArray, List.set_cons_zero, List.set_cons_succ]
                      refine takeO (i := 11) (v := ?_) (by kernel_rfl) (by kernel_rfl) (by kernel_rfl) (fun c a d v w h => by cases d <;> exact h) (oi := ?_) ?_ ?_ (by assumption) ?_
                      rotate_left 2
                      · (simp only [List.getElem?_toArray, List.getElem?_cons_succ, List.getElem?_cons_zero]; rfl)
                      · (refine Or.inl ⟨by rfl, ?_⟩; intro w hSw; (try dsimp only at hSw); go_simp; try with_reducible rfl)
                      try simp only [Act.put, List.setIfInBounds_toArray, List.set_cons_zero, List.set_cons_succ]
                      refine wpAnyH_ready (rs := [12]) (by kernel_rfl) (by simp) ?_
                      refine AllReadyH.cons rfl (fun K hK => ?_) AllReadyH.nil
                      go_simp
                      refine hK.out _ _ trivial (fun hHeldZ => ?_)
                      clear hK K
                      try simp only [Act.put, List.setIfInBounds_toArray, List.set_cons_zero, List.set_cons_succ]
                      refine wpAnyH_done (by kernel_rfl) ?_ _
                      exact REST A7 c7 _ (by rw [HST.out]; exact ⟨A7, c7, HX7.out⟩)
              case rest =>
                intro A7 c7 W7 hF
                have HF := hid hF
                clear hF HX HXd HR9 HST HLN hw1 hw2 hw2b hw3
                go_wp2_with fail
                go_round
                case rel => exact ⟨j + 1, by omega, by go_num, HF⟩
                case measure => simp [RowKit.intOf]; omega
            · have e : j = k := by omega
              have HE := hid (show L2x w wr r b g base n1 p D cD k C (ring k s) by rw [HRG.out]; rw [e] at HL; exact HL.out)
              clear HL HRG e
              go_wp2_with fail
              go_meet
              case rel => exact HE
        · have HE := hid (show L2x w wr r b g base n1 p D cD k C (ring k s) by rw [ring, if_neg hk1]; exact HL2.out)
          clear HL2
          go_wp2_with fail
          go_meet
          case rel => exact HE
      case rest =>
        clear HL2
        have HR := hcut
        clear hcut
        go_wp2_with fail
        go_loopw [102] (fun i wq => ∃ j : Nat, j ≤ k / 2 ∧ i = .int .i64 j ∧ Hid (L2x w wq r b g base n1 p D cD k C (moreS k (ring k s) j))) (fun i _ => k / 2 - (RowKit.intOf i).toNat)
        case atStart => exact ⟨0, Nat.zero_le _, rfl, HR⟩
        case round =>
          obtain ⟨j, hj, rfl, HL⟩ := hrel
          clear HR
          by_cases hjk : j < k / 2
          · have HST := hid (show moreS k (ring k s) (j + 1) = (aft 9 (aft k (aft k (moreS k (ring k s) j).1)), if roll k (moreS k (ring k s) j).1 = roll k (aft k (moreS k (ring k s) j).1) then (moreS k (ring k s) j).2 else (moreS k (ring k s) j).2 ++ two (roll k (moreS k (ring k s) j).1) (roll k (aft k (moreS k (ring k s) j).1)) (1 + roll 9 (aft k (aft k (moreS k (ring k s) j).1)))) from rfl)
            have HLN := hid (show (moreS k (ring k s) j).2.length ≤ 200 by
              have h1 := (ring_ok (n := k) s k (Nat.le_refl _)).2
              have h2 : (ring k s).2.length ≤ 2 * k := by
                unfold ring; split
                · rw [h1]; exact Nat.le_refl _
                · exact Nat.zero_le _
              have h3 : (∀ e ∈ (ring k s).2, EdOk k e) := by
                unfold ring; split
                · exact (ring_ok s k (Nat.le_refl _)).1
                · exact fun e he => absurd he (by simp)
              have := (more_ok hN (ring k s) h3 j).2.1
              omega)
            obtain ⟨E, cE, HXu⟩ := HL.out
            have HX := hid HXu
            clear HXu HL
            generalize moreS k (ring k s) j = z at *
            obtain ⟨a0, a1⟩ := roll_in k z.1 (by omega)
            obtain ⟨b0, b1⟩ := roll_in k (aft k z.1) (by omega)
            obtain ⟨t0, t1⟩ := roll9 (aft k (aft k z.1))
            have hjI : (j : Int) < (k : Int) / 2 := by omega
            go_upto_region 22 with fail
            go_wp2_with fail
            (with_reducible refine (intn_any _ b (z.1) k (show Gn _ _ b (z.1) from HX.out.tm.rng) (by omega)).mono ?_)
            rintro e v1 ⟨rfl, hg, hk⟩
            have HLn := hid (show L2u _ w v1 r b g base n1 p D cD k C E cE (aft k z.1, z.2) from HX.out.drawn hg hk)
            clear hg hk HX
            have HX := HLn
            clear HLn
            go_upto_region 23 with fail
            go_wp2_with fail
            (with_reducible refine (intn_any _ b (aft k z.1) k (show Gn _ _ b (aft k z.1) from HX.out.tm.rng) (by omega)).mono ?_)
            rintro e v2 ⟨rfl, hg, hk⟩
            have HLn := hid (show L2u _ w v2 r b g base n1 p D cD k C E cE (aft k (aft k z.1), z.2) from HX.out.drawn hg hk)
            clear hg hk HX
            have HX := HLn
            clear HLn
            go_upto_region 24 with fail
            go_wp2_with fail
            (with_reducible refine (intn_any _ b (aft k (aft k z.1)) 9 (show Gn _ _ b (aft k (aft k z.1)) from HX.out.tm.rng) (by omega)).mono ?_)
            rintro e v3 ⟨rfl, hg, hk⟩
            have HLn := hid (show L2u _ w v3 r b g base n1 p D cD k C E cE (aft 9 (aft k (aft k z.1)), z.2) from HX.out.drawn hg hk)
            clear hg hk HX
            have HX := HLn
            clear HLn
            generalize aft 9 (aft k (aft k z.1)) = sn at *
            generalize roll 9 (aft k (aft k z.1)) = t9 at *
            generalize roll k (aft k z.1) = y at *
            generalize roll k z.1 = x at *
            by_cases hxy : x = y
            · have HE := hid (show moreS k (ring k s) (j + 1) = (sn, z.2) by rw [HST.out, if_pos hxy])
              clear HST
              subst hxy
              go_wp2_with fail
              go_round
              case rel => exact ⟨j + 1, by omega, by go_num, by rw [HE.out]; exact hid ⟨E, cE, HX.out⟩⟩
              case measure => simp [RowKit.intOf]; omega
            · have HE := hid (show moreS k (ring k s) (j + 1) = (sn, z.2 ++ two x y (1 + t9)) by rw [HST.out, if_neg hxy])
              clear HST
              go_upto_region 26 with fail
              clear hxy
              generalize 1 + t9 = t at *
              have c2 := HX.out.hd
              go_wp2_with fail
              (with_reducible refine (addroad_any _ n1 E cE z.2 x y t HX.out.own HX.out.tm.top (by have := HLN.out; omega)).mono ?_)
              rintro e w7 ⟨A7, c7, rfl, ho7, hk7, hw7⟩
              have HX7 := hid (HX.out.step hk7 ho7 (by simp [two]))
              obtain ⟨x2, x3⟩ := HX.out.atg hk7
              clear ho7 hk7 hw7 c2
              go_wp2_with fail
              go_round
              case rel => exact ⟨j + 1, by omega, by go_num, by rw [HE.out]; exact hid ⟨A7, c7, HX7.out⟩⟩
              case measure => simp [RowKit.intOf]; omega
          · obtain ⟨E, cE, HLu⟩ := HL.out
            have HX := hid (show L2u _ w wr r b g base n1 p D cD k C E cE (edgS k s) from by
              have e : j = k / 2 := by omega
              rw [e] at HLu
              exact HLu)
            have HL4 := hid (show L4z w _ r b g base n1 (wr.heap.size + 1) p wr.heap.size D cD E cE k C (edgS k s).2 ((edgS k s).1, []) from ⟨_, _, L4x.start HX.out⟩)
            have hjI : ¬ (j : Int) < (k : Int) / 2 := by omega
            clear HLu HL HX
            go_upto_region 29 with fail
            generalize (wr.alloc (.cells #[.int .i64 6, .int .i64 2, .int .i64 1, .int .i64 1] 3)) = w8 at *
            generalize hn2 : wr.heap.size + 1 = n2 at *
            clear hn2
            generalize wr.heap.size = q at *
            go_wp2_with fail
            go_loopw [126] (fun i wq => ∃ j : Nat, j ≤ U ∧ i = .int .i64 j ∧ Hid (L4z w wq r b g base n1 n2 p q D cD E cE k C (edgS k s).2 (unitS k C (edgS k s).1 j))) (fun i _ => U - (RowKit.intOf i).toNat)
            case atStart => exact ⟨0, Nat.zero_le _, rfl, HL4⟩
            case round =>
              obtain ⟨j, hj, rfl, HL⟩ := hrel
              clear HL4
              by_cases hjU : j < U
              · have HST := hid (show unitS k C (edgS k s).1 (j + 1) = (aft (plL k C (j % C) k).length (pickA wts (unitS k C (edgS k s).1 j).1), (unitS k C (edgS k s).1 j).2 ++ [⟨1 + pick wts (unitS k C (edgS k s).1 j).1, ((j % C : Nat) : Int), ((plL k C (j % C) k)[(roll (plL k C (j % C) k).length (pickA wts (unitS k C (edgS k s).1 j).1)).toNat]?).getD 0⟩]) from rfl)
                have HLN := hid (show (unitS k C (edgS k s).1 j).2.length = j from (unitS_ok h1 h3 (edgS k s).1 j).2)
                have hmC := Nat.mod_lt j (show 0 < C by omega)
                have hmd : (j : Int) % (C : Int) = ((j % C : Nat) : Int) := by simp
                generalize unitS k C (edgS k s).1 j = x at *
                obtain ⟨k0, k1⟩ := pick_in x.1
                have hlen1 := pl_pos (h := j % C) h1 h3 hmC
                have hlen2 := pl_le k C (j % C) k
                obtain ⟨U0, cU, HLu⟩ := HL.out
                have HX := hid HLu
                clear HLu HL
                go_upto_region 32 with fail
                go_wp2_with fail
                (with_reducible refine (pick_any _ b x.1 _ 4 _ wts HX.out.u.tm.rng (by omega) (fun i => i < base ∨ n2 ≤ i) (Or.inl HX.out.u.bb) HX.out.ws).mono ?_)
                rintro e v1 ⟨rfl, hg, hk⟩
                have HX1 := hid (show L4x _ w v1 r b g base n1 n2 p q D cD E cE k C (edgS k s).2 U0 cU (pickA wts x.1, x.2) from HX.out.drawn hg hk)
                clear hg hk HX
                generalize pick wts x.1 = pk at *
                generalize pickA wts x.1 = s1 at *
                go_upto_region 34 with fail
                simp only [hmd]
                clear hmd
                generalize j % C = h at *
                obtain ⟨PA, pc, hPc, hPs⟩ := HX1.out.pl.row hmC
                generalize plL k C h k = L at *
                obtain ⟨pa, po, rfl, hpl, hpa, hpr⟩ := hPs.at_ (by omega)
                obtain ⟨x0, x1⟩ := roll_in L.length s1 (by omega)
                obtain ⟨xi, hxi⟩ : ∃ n : Nat, roll L.length s1 = n := ⟨_, (Int.toNat_of_nonneg x0).symm⟩
                rw [hxi] at x1
                obtain ⟨nd, hnd⟩ := get_some (l := L) (k := xi) (by omega)
                have hcell : v1.cell? ⟨pa, po + xi, none⟩ = some (.int .i64 nd) := hpr xi _ (by simp [icellsC, hnd])
                have HE := hid (show unitS k C (edgS k s).1 (j + 1) = (aft L.length s1, x.2 ++ [⟨1 + pk, h, nd⟩]) by rw [HST.out, hxi]; simp [hnd])
                have HXI := hid hxi
                have hpb : pa ≠ b := fun e => hpa (Or.inl (by have := HX1.out.u.bb; omega))
                have hppb := HX1.out.pn
                have hppl : p < v1.heap.size := by have := HX1.out.pb; have := HX1.out.u.bn; have := HX1.out.n12; have := HX1.out.u.tm.top; omega
                have hxl : x.2.length ≤ 256 := by have := HLN.out; omega
                have hi0 : (0 : Int) ≤ (h : Int) := Int.natCast_nonneg _
                have hi1 : (h : Int) < (C : Int) := by omega
                have hj0 : (0 : Int) ≤ (xi : Int) := Int.natCast_nonneg _
                clear HST hxi hnd x0 HLN hpr hPs hpa
                refine wp_region_held_drew (S := fun W => W.cell? ⟨p, h, none⟩ = some (.slice (some ⟨pa, po, none⟩) L.length pc) ∧ W.cell? ⟨pa, po + xi, none⟩ = some (.int .i64 nd)) (by kernel_rfl) ⟨hPc, hcell⟩ (fun hHeld => ?_)
                refine takeO (i := 0) (v := ?_) (by kernel_rfl) (by kernel_rfl) (by kernel_rfl) (fun c a d v w h => by cases d <;> exact h) (oi := ?_) ?_ ?_ (by assumption) ?_
                rotate_left 2
                · (simp only [List.getElem?_toArray, List.getElem?_cons_zero]; rfl)
                · (refine Or.inl ⟨by rfl, ?_⟩; intro w hSw; (try dsimp only at hSw); obtain ⟨hS1, hS2⟩ := hSw; go_simp; try with_reducible rfl)
                try simp only [Act.put, List.setIfInBounds_toArray, List.set_cons_zero, List.set_cons_succ]
                refine takeO (i := 1) (v := ?_) (by kernel_rfl) (by kernel_rfl) (by kernel_rfl) (fun c a d v w h => by cases d <;> exact h) (oi := ?_) ?_ ?_ (by assumption) ?_
                rotate_left 2
                · (simp only [List.getElem?_toArray, List.getElem?_cons_succ, List.getElem?_cons_zero]; rfl)
                · (refine Or.inl ⟨by rfl, ?_⟩; intro w hSw; (try dsimp only at hSw); obtain ⟨hS1, hS2⟩ := hSw; go_simp; try with_reducible rfl)
                try simp only [Act.put, List.setIfInBounds_toArray, List.set_cons_zero, List.set_cons_succ]
                refine takeO (i := 2) (v := ?_) (by kernel_rfl) (by kernel_rfl) (by kernel_rfl) (fun c a d v w h => by cases d <;> exact h) (oi := ?_) ?_ ?_ (by assumption) ?_
                rotate_left 2
                · (simp only [List.getElem?_toArray, List.getElem?_cons_succ, List.getElem?_cons_zero]; rfl)
                · (refine Or.inl ⟨by rfl, ?_⟩; intro w hSw; (try dsimp only at hSw); obtain ⟨hS1, hS2⟩ := hSw; go_simp; try with_reducible rfl)
                try simp only [Act.put, List.setIfInBounds_toArray, List.set_cons_zero, List.set_cons_succ]
                refine takeO (i := 3) (v := ?_) (by kernel_rfl) (by kernel_rfl) (by kernel_rfl) (fun c a d v w h => by cases d <;> exact h) (oi := ?_) ?_ ?_ (by assumption) ?_
                rotate_left 2
                · (simp only [List.getElem?_toArray, List.getElem?_cons_succ, List.getElem?_cons_zero]; rfl)
                · (refine Or.inl ⟨by rfl, ?_⟩; intro w hSw; (try dsimp only at hSw); obtain ⟨hS1, hS2⟩ := hSw; go_simp; try with_reducible rfl)
                try simp only [Act.put, List.setIfInBounds_toArray, List.set_cons_zero, List.set_cons_succ]
                refine takeO (i := 4) (v := ?_) (by kernel_rfl) (by kernel_rfl) (by kernel_rfl) (fun c a d v w h => by cases d <;> exact h) (oi := ?_) ?_ ?_ (by assumption) ?_
                rotate_left 2
                · (simp only [List.getElem?_toArray, List.getElem?_cons_succ, List.getElem?_cons_zero]; rfl)
                · (refine Or.inl ⟨by rfl, ?_⟩; intro w hSw; (try dsimp only at hSw); obtain ⟨hS1, hS2⟩ := hSw; go_simp; try with_reducible rfl)
                try simp only [Act.put, List.setIfInBounds_toArray, List.set_cons_zero, List.set_cons_succ]
                refine takeO (i := 5) (v := ?_) (by kernel_rfl) (by kernel_rfl) (by kernel_rfl) (fun c a d v w h => by cases d <;> exact h) (oi := ?_) ?_ ?_ (by assumption) ?_
                rotate_left 2
                · (simp only [List.getElem?_toArray, List.getElem?_cons_succ, List.getElem?_cons_zero]; rfl)
                · (refine Or.inl ⟨by rfl, ?_⟩; intro w hSw; (try dsimp only at hSw); obtain ⟨hS1, hS2⟩ := hSw; go_simp; try with_reducible rfl)
                try simp only [Act.put, List.setIfInBounds_toArray, List.set_cons_zero, List.set_cons_succ]
                refine takeO (i := 6) (v := ?_) (by kernel_rfl) (by kernel_rfl) (by kernel_rfl) (fun c a d v w h => by cases d <;> exact h) (oi := ?_) ?_ ?_ (by assumption) ?_
                rotate_left 2
                · (simp only [List.getElem?_toArray, List.getElem?_cons_succ, List.getElem?_cons_zero]; rfl)
                · (refine Or.inl ⟨by rfl, ?_⟩; intro w hSw; (try dsimp only at hSw); obtain ⟨hS1, hS2⟩ := hSw; go_simp; try with_reducible rfl)
                try simp only [Act.put, List.setIfInBounds_toArray, List.set_cons_zero, List.set_cons_succ]
                refine takeO (i := 7) (v := ?_) (by kernel_rfl) (by kernel_rfl) (by kernel_rfl) (fun c a d v w h => by cases d <;> exact h) (oi := ?_) ?_ ?_ (by assumption) ?_
                rotate_left 2
                · (simp only [List.getElem?_toArray, List.getElem?_cons_succ, List.getElem?_cons_zero]; rfl)
                · (refine Or.inl ⟨by rfl, ?_⟩; intro w hSw; (try dsimp only at hSw); obtain ⟨hS1, hS2⟩ := hSw; go_simp; try with_reducible rfl)
                try simp only [Act.put, List.setIfInBounds_toArray, List.set_cons_zero, List.set_cons_succ]
                refine takeO (i := 8) (v := ?_) (by kernel_rfl) (by kernel_rfl) (by kernel_rfl) (fun c a d v w h => by cases d <;> exact h) (oi := ?_) ?_ ?_ (by assumption) ?_
                rotate_left 2
                · (simp only [List.getElem?_toArray, List.getElem?_cons_succ, List.getElem?_cons_zero]; rfl)
                · (refine Or.inl ⟨by rfl, ?_⟩; intro w hSw; (try dsimp only at hSw); obtain ⟨hS1, hS2⟩ := hSw; go_simp; try with_reducible rfl)
                try simp only [Act.put, List.setIfInBounds_toArray, List.set_cons_zero, List.set_cons_succ]
                refine takeO (i := 9) (v := ?_) (by kernel_rfl) (by kernel_rfl) (by kernel_rfl) (fun c a d v w h => by cases d <;> exact h) (oi := ?_) ?_ ?_ (by assumption) ?_
                rotate_left 2
                · (simp only [List.getElem?_toArray, List.getElem?_cons_succ, List.getElem?_cons_zero]; rfl)
                · (refine Or.inl ⟨by rfl, ?_⟩; intro w hSw; (try dsimp only at hSw); obtain ⟨hS1, hS2⟩ := hSw; go_simp; try with_reducible rfl)
                try simp only [Act.put, List.setIfInBounds_toArray, List.set_cons_zero, List.set_cons_succ]
                have HXd := hid (HX1.out.same (Keep.refl (fun _ => False) _).drew)
                have hPd : v1.drew.cell? ⟨p, h, none⟩ = some (.slice (some ⟨pa, po, none⟩) L.length pc) := hPc
                have hCd : v1.drew.cell? ⟨pa, po + xi, none⟩ = some (.int .i64 nd) := hcell
                have hzd : v1.drew.heap.size = v1.heap.size := rfl
                refine wpAnyH_ready (rs := [10]) (by kernel_rfl) (by simp) ?_
                refine AllReadyH.cons rfl (fun K hK => ?_) AllReadyH.nil
                go_simp
                (with_reducible refine (intn_any _ b s1 _ HXd.out.u.tm.rng (by omega)).mono ?_)
                rintro e v2 ⟨rfl, hg, hk⟩
                have HX2 := hid (show L4x _ w v2 r b g base n1 n2 p q D cD E cE k C (edgS k s).2 U0 cU (aft L.length s1, x.2) from HXd.out.drawn hg hk)
                have hP2 : v2.cell? ⟨p, h, none⟩ = some (.slice (some ⟨pa, po, none⟩) L.length pc) := (hk.cell (p := ⟨p, h, none⟩) (by rw [hzd]; exact hppl) hppb).trans hPd
                have hC2 : v2.cell? ⟨pa, po + xi, none⟩ = some (.int .i64 nd) := (hk.cell (p := ⟨pa, po + xi, none⟩) (by rw [hzd]; exact hpl) hpb).trans hCd
                clear hg hk
                rw [HXI.out]
                refine hK.out _ _ ⟨hP2, hC2⟩ (fun hHeld1 => ?_)
                clear hK K
                try simp only [Act.put, List.setIfInBounds_toArray, List.set_cons_zero, List.set_cons_succ]
                refine takeO (i := 11) (v := ?_) (by kernel_rfl) (by kernel_rfl) (by kernel_rfl) (fun c a d v w h => by cases d <;> exact h) (oi := ?_) ?_ ?_ (by assumption) ?_
                rotate_left 2
                · (simp only [List.getElem?_toArray, List.getElem?_cons_succ, List.getElem?_cons_zero]; rfl)
                · (refine Or.inl ⟨by rfl, ?_⟩; intro w hSw; (try dsimp only at hSw); obtain ⟨hS1, hS2⟩ := hSw; go_simp; try with_reducible rfl)
                try simp only [Act.put, List.setIfInBounds_toArray, List.set_cons_zero, List.set_cons_succ]
                refine takeO (i := 12) (v := ?_) (by kernel_rfl) (by kernel_rfl) (by kernel_rfl) (fun c a d v w h => by cases d <;> exact h) (oi := ?_) ?_ ?_ (by assumption) ?_
                rotate_left 2
                · (simp only [List.getElem?_toArray, List.getElem?_cons_succ, List.getElem?_cons_zero]; rfl)
                · (refine Or.inl ⟨by rfl, ?_⟩; intro w hSw; (try dsimp only at hSw); obtain ⟨hS1, hS2⟩ := hSw; go_simp; try with_reducible rfl)
                try simp only [Act.put, List.setIfInBounds_toArray, List.set_cons_zero, List.set_cons_succ]
                refine takeO (i := 13) (v := ?_) (by kernel_rfl) (by kernel_rfl) (by kernel_rfl) (fun c a d v w h => by cases d <;> exact h) (oi := ?_) ?_ ?_ (by assumption) ?_
                rotate_left 2
                · (simp only [List.getElem?_toArray, List.getElem?_cons_succ, List.getElem?_cons_zero]; rfl)
                · (refine Or.inl ⟨by rfl, ?_⟩; intro w hSw; (try dsimp only at hSw); obtain ⟨hS1, hS2⟩ := hSw; go_simp; try with_reducible rfl)
                try simp only [Act.put, List.setIfInBounds_toArray, List.set_cons_zero, List.set_cons_succ]
                refine wpAnyH_done (by kernel_rfl) ?_ _
                clear hP2 hC2 hPd hCd hPc hcell hHeld hHeld1 hzd HXd HX1 HXI hpl hppl hi0 hi1 hj0
                go_upto_region 35 with fail
                have c2 := HX2.out.u.hd
                have HKA := hid ((Keep.refl (fun _ => False) v2).alloc (.cells #[.int .i64 (1 + pk), .int .i64 (h : Int), .int .i64 nd] 55))
                have HXa := hid (HX2.out.same HKA.out)
                have HSA := hid (src_new (w := v2) (cs := #[.int .i64 (1 + pk), .int .i64 (h : Int), .int .i64 nd]) (t := 55) (news := e3cells [⟨1 + pk, h, nd⟩]) rfl)
                go_upto_region 36 with (refine EUn.law2 (.tmp 150) (.tmp 155) (.slice U0 x.2.length cU) (some ⟨v2.heap.size, 0, none⟩) 1 1 rfl rfl rfl rfl n2 x.2.length (e3cells x.2) (e3cells [⟨1 + pk, h, nd⟩]) (x.2.length + 1) (e3cells (x.2 ++ [⟨1 + pk, h, nd⟩])) rfl (e3_app _ _).symm HXa.out.u.own rfl (fun _ => ⟨_, rfl, HSA.out⟩) (e3_one _) (by omega) (by unfold maxLen; omega) HXa.out.u.tm.top ?_; intro A7 c7 w7 ho7 hg7 hw7; have HX7 := hid (HXa.out.step hg7 ho7 (by simp)); have ht7 := HXa.out.u.tm.far ((Keep.refl (fun i => n2 ≤ i) _).grown hg7 (fun x e _ => HXa.out.u.own.block x e)) (fun i e => e); have c3 : w7.cell? ⟨g, 3, none⟩ = some (.slice U0 x.2.length cU) := ht7.cfg.at_ 3; have f3 := ht7.cfg.free 3; clear ho7 hg7 hw7 ht7)
                clear c2 c3 f3 HKA HXa HSA HX2
                go_wp2_with fail
                go_round
                case rel => exact ⟨j + 1, by omega, by go_num, by rw [HE.out]; exact hid ⟨A7, c7, HX7.out⟩⟩
                case measure => simp [RowKit.intOf]; omega
              · obtain rfl : j = U := by omega
                obtain ⟨U0, cU, HLx⟩ := HL.out
                have hul : (unitS k C (edgS k s).1 j).2.length = j := (unitS_ok h1 h3 (edgS k s).1 j).2
                have hel := (edg_ok hN s).2
                have hD := HLx.u.done (by rw [disL_len]; unfold maxLen; omega) (by unfold maxLen; omega) (by unfold maxLen; omega) HLx.rb (cfZ C k D cD E cE (edgS k s).2 U0 cU (unitS k C (edgS k s).1 j).2 wr.heap.size).cells.toArray
                have HT9 := hid hD.1
                have HC9 := hid hD.2
                have hgl := HLx.u.tm.cfg.lt
                have k3 : Same wr (((wr.alloc (.cells #[.int .i64 2, .int .i64 1] 3)).alloc (.cells #[.int .i64 1, .int .i64 3] 3)).alloc (.cells #[.string ⟨#[104, 101, 97, 114, 116]⟩, .int .i64 1, .slice (some ⟨wr.heap.size, 0, none⟩) 2 2, .string ⟨#[102, 105, 114, 101]⟩, .int .i64 2, .slice (some ⟨wr.heap.size + 1, 0, none⟩) 2 2] 57)) := (((Keep.refl _ wr).alloc _).alloc _).alloc _
                have c4 : (((wr.alloc (.cells #[.int .i64 2, .int .i64 1] 3)).alloc (.cells #[.int .i64 1, .int .i64 3] 3)).alloc (.cells #[.string ⟨#[104, 101, 97, 114, 116]⟩, .int .i64 1, .slice (some ⟨wr.heap.size, 0, none⟩) 2 2, .string ⟨#[102, 105, 114, 101]⟩, .int .i64 2, .slice (some ⟨wr.heap.size + 1, 0, none⟩) 2 2] 57)).cell? ⟨g, 4, none⟩ = some (.slice none 0 0) := (k3.cell hgl (fun f => f)).trans (HLx.u.tm.cfg.at_ 4)
                have f4 : (((wr.alloc (.cells #[.int .i64 2, .int .i64 1] 3)).alloc (.cells #[.int .i64 1, .int .i64 3] 3)).alloc (.cells #[.string ⟨#[104, 101, 97, 114, 116]⟩, .int .i64 1, .slice (some ⟨wr.heap.size, 0, none⟩) 2 2, .string ⟨#[102, 105, 114, 101]⟩, .int .i64 2, .slice (some ⟨wr.heap.size + 1, 0, none⟩) 2 2] 57)).frozen? ⟨g, 4, none⟩ = false := (k3.frozen hgl (fun f => f)).trans (HLx.u.tm.cfg.free 4)
                clear HLx HL hD k3 hul hel
                go_upto_region 38 with fail
                clear c4 f4 hgl
                generalize (((wr.alloc (.cells #[.int .i64 2, .int .i64 1] 3)).alloc (.cells #[.int .i64 1, .int .i64 3] 3)).alloc (.cells #[.string ⟨#[104, 101, 97, 114, 116]⟩, .int .i64 1, .slice (some ⟨wr.heap.size, 0, none⟩) 2 2, .string ⟨#[102, 105, 114, 101]⟩, .int .i64 2, .slice (some ⟨wr.heap.size + 1, 0, none⟩) 2 2] 57)).setCell ⟨g, 4, none⟩ (.slice (some ⟨wr.heap.size + 1 + 1, 0, none⟩) 2 2) = w9 at *
                have HRR := hid (show TownIs (cfZ C k D cD E cE (edgS k s).2 U0 cU (unitS k C (edgS k s).1 j).2 wr.heap.size) k C j s from ⟨rfl, rfl, rfl, rfl, ⟨_, _, rfl⟩, rfl, rfl, rfl, rfl, rfl, rfl, rfl, rfl, rfl, rfl⟩)
                generalize cfZ C k D cD E cE (edgS k s).2 U0 cU (unitS k C (edgS k s).1 j).2 wr.heap.size = cf at *
                have HBC := hid HT9.out.cfg
                have HBR := hid HT9.out.res
                have HKP := hid HT9.out.keep
                have hrw := HT9.out.r0
                clear HT9
                go_wp2_with (first
                  | (refine wpList_load_row rfl _ (.tmp 11) rfl g rfl _ cf.cells.toArray (0, 0) _ HBC.out Tryd.underlying30 rfl (by kernel_rfl) ?_)
                  | (refine wpList_store_row rfl _ (.tmp 8) (.tmp 165) rfl r cf.cells.toArray rfl rfl _ _ HBR.out (by kernel_rfl) rfl (one_toArray (CF.one cf)) ?_))
                refine bodyPost_ret (results_cell_tmp rfl _ _ _ _ _ _ _ _ rfl rfl (HBR.out.row _) Tryd.underlying30 rfl (by kernel_rfl)) rfl ?_
                exact town_ret (by omega) h2 h3 h4 (by omega) HRR.out HC9.out (HKP.out.trans (Keep.row _ _ _) (fun i hi e => by have e2 : i = r := e; omega))
end Go.Proofs.YtnejacmmbfeneaaDoor

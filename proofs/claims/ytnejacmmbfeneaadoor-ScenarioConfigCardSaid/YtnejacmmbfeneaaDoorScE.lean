import Derived.Test.YtnejacmmbfeneaaDoorScD
namespace Go.Proofs.YtnejacmmbfeneaaDoor
open Go.RowKit

def disP (n c k : Nat) : List Int := (List.range k).map fun i => ((disN n c i : Nat) : Int)
theorem disP_snoc (n c k : Nat) : disP n c (k + 1) = disP n c k ++ [((disN n c k : Nat) : Int)] := by simp [disP, List.range_succ]
theorem disP_len (n c k : Nat) : (disP n c k).length = k := by simp [disP]
/-- After k rounds of the first loop. -/
def L1 (w wr : World) (r b g base : Nat) (s : Int) (N C k : Nat) : Prop :=
  ∃ D cD, TM w wr 60 r b g base s { cfA C with D := D, cD := cD, dis := disP N C k } ∧ Own wr base 3 1 (.slice D k cD) k (icellsC (disP N C k))

theorem L1.step {w W W' : World} {r b g base : Nat} {s : Int} {N C k : Nat} {D x : Option Addr} {cD y : Nat} (ht : TM w W 60 r b g base s { cfA C with D := D, cD := cD, dis := disP N C k })
    (ho : Own W base 3 1 (.slice x (k + 1) y) (k + 1) (icellsC (disP N C (k + 1)))) (hw : W.setCell ⟨g, 1, none⟩ (.slice x (k + 1) y) = W') : L1 w W' r b g base s N C (k + 1) := by
  have h1 := ht.set (c' := { cfA C with D := x, cD := y, dis := disP N C (k + 1) }) 1 (.slice x (k + 1) y) hw (by simp [CF.cells, disP])
  subst hw
  exact ⟨x, y, h1, ho.keepB ((Keep.refl (· = g) W).put 1 _) (fun i hi e => by have e2 : i = g := e; have := ho.block i hi; have := ht.gb; omega)⟩
theorem one_restA {F G : Option Addr → Nat → Nat → World → Prop} {goal : Prop} (main : (∀ x c g W, F x c g W → G x c g W) → goal) (rest : ∀ x c g W, F x c g W → G x c g W) : goal := main rest

/-- After k rounds of the second loop. -/
def L2 (w wr : World) (r b g base n1 : Nat) (D : Option Addr) (cD : Nat) (N C : Nat) (p : Int × List E3) : Prop :=
  ∃ E cE, TM w wr 60 r b g n1 p.1 { cfA C with D := D, cD := cD, dis := disL N C, E := E, cE := cE, edg := p.2 } ∧ Own wr n1 62 3 (.slice E p.2.length cE) p.2.length (e3cells p.2) ∧
    Sl wr (fun i => i < base ∨ n1 ≤ i) 1 D N (icellsC (disL N C))
theorem L2.start {w wr : World} {r b g base : Nat} {s : Int} {N C : Nat} {D : Option Addr} {cD : Nat} (ht : TM w wr 60 r b g base s { cfA C with D := D, cD := cD, dis := disP N C N })
    (ho : Own wr base 3 1 (.slice D N cD) N (icellsC (disP N C N))) : L2 w wr r b g base wr.heap.size D cD N C (s, []) :=
  ⟨none, 0, ht.rise ht.top (Nat.le_refl _), Own.nil _ _ _ _, ho.slN.wide (fun i hi h => by rcases h with h | h; exact h; omega)⟩

theorem L2.step {w w7 : World} {r b g base n1 N C n : Nat} {D E x : Option Addr} {cD cE y : Nat} {s : Int} {l l' : List E3}
    (ht : TM w w7 60 r b g n1 s { cfA C with D := D, cD := cD, dis := disL N C, E := E, cE := cE, edg := l }) (hn : n = l'.length)
    (ho : Own w7 n1 62 3 (.slice x n y) n (e3cells l')) (hs : Sl w7 (fun i => i < base ∨ n1 ≤ i) 1 D N (icellsC (disL N C))) (gb : g < base) : L2 w (w7.setCell ⟨g, 2, none⟩ (.slice x n y)) r b g base n1 D cD N C (s, l') := by
  subst hn
  exact ⟨x, y, ht.set 2 _ rfl (by simp [CF.cells]), ho.keepB ((Keep.refl (· = g) w7).put 2 _) (fun i hi e => by have e2 : i = g := e; have := ho.block i hi; have := ht.gb; omega),
    hs.keep ((Keep.refl (· = g) w7).put 2 _) (fun i _ e => Or.inl (by have e2 : i = g := e; omega))⟩
theorem L2.drawn {w wr w' : World} {r b g base n1 N C : Nat} {D : Option Addr} {cD : Nat} {p : Int × List E3} {s : Int} (h : L2 w wr r b g base n1 D cD N C p) (hg : Gn w' 60 b s) (hk : Keep (· = b) wr w') (hb : b < base) :
    L2 w w' r b g base n1 D cD N C (s, p.2) := by
  obtain ⟨E, cE, ht, ho, hs⟩ := h
  exact ⟨E, cE, ht.draw hg hk, ho.keepB hk (fun x hx e => by have e2 : x = b := e; have := ho.block x hx; have := ht.bb; omega), hs.keep hk (fun i _ e => by have e2 : i = b := e; exact Or.inl (by omega))⟩
theorem L2.rng {w wr : World} {r b g base n1 N C : Nat} {D : Option Addr} {cD : Nat} {p : Int × List E3} (h : L2 w wr r b g base n1 D cD N C p) : Gn wr 60 b p.1 := by
  obtain ⟨E, cE, ht, _⟩ := h
  exact ht.rng
theorem results_cell_tmp {P : Program} {fn : Func} {p q : Tmp} {ty : TypeId} (h : fn.results = #[.cell p ty, .tmp q]) (tmps : Array Value) (w : World) (g : Nat) (t : TypeId) (cs : Array Value) (fr : Nat × Nat) (d : TypeDesc) (v : Value)
    (hp : tmps.getD p undef = .pointer (some ⟨g, 0, none⟩)) (hq : tmps.getD q undef = v) (hg : w.heap[g]? = some (.cells cs t fr))
    (hu : P.underlying ty = some d) (hd : (match d with | .struct _ | .array _ _ => true | _ => false) = true) (hi : (P.info? ty).map (·.size) = some cs.size) :
    (results fn tmps).run P w = .ok (.tuple #[.agg cs, v]) w := by
  have hp' : tmps[p]?.getD undef = .pointer (some ⟨g, 0, none⟩) := by simpa using hp
  have hq' : tmps[q]?.getD undef = v := by simpa using hq
  simp [results, h, hp', hq', asAddr, run_loadVar_row w g t ty cs fr d hg hu hd hi]

/-- After some rounds of the fourth loop. -/
structure L4u (t : TypeId) (w wr : World) (r b g base n1 n2 : Nat) (D : Option Addr) (cD : Nat) (E : Option Addr) (cE : Nat) (N C : Nat) (el : List E3) (U : Option Addr) (cU : Nat) (p : Int × List E3) : Prop where
  tm : TM w wr t r b g n2 p.1 { cfA C with D := D, cD := cD, dis := disL N C, E := E, cE := cE, edg := el, U := U, cU := cU, uni := p.2 }
  own : Own wr n2 55 3 (.slice U p.2.length cU) p.2.length (e3cells p.2)
  ds : Sl wr (fun i => i < base ∨ n2 ≤ i) 1 D N (icellsC (disL N C))
  es : Sl wr (fun i => i < n1 ∨ n2 ≤ i) 3 E el.length (e3cells el)
  bb : b < base
  gb : g < base
  bn : base ≤ n1
section
variable {t : TypeId} {w wr w' : World} {r b g base n1 n2 N C : Nat} {D E U : Option Addr} {cD cE cU : Nat} {el : List E3} {p : Int × List E3}
theorem L4u.drawn {s : Int} (h : L4u t w wr r b g base n1 n2 D cD E cE N C el U cU p) (hg : Gn w' t b s) (hk : Keep (· = b) wr w') : L4u t w w' r b g base n1 n2 D cD E cE N C el U cU (s, p.2) :=
  ⟨h.tm.draw hg hk, h.own.keepB hk (fun x hx e => by have e2 : x = b := e; have := h.own.block x hx; have := h.tm.bb; omega), h.ds.keep hk (fun i _ e => by have e2 : i = b := e; have := h.bb; exact Or.inl (by omega)),
    h.es.keep hk (fun i _ e => by have e2 : i = b := e; have := h.bb; have := h.bn; exact Or.inl (by omega)), h.bb, h.gb, h.bn⟩
theorem L4u.same (h : L4u t w wr r b g base n1 n2 D cD E cE N C el U cU p) (hk : Same wr w') : L4u t w w' r b g base n1 n2 D cD E cE N C el U cU p :=
  ⟨h.tm.same hk, h.own.keepB hk (fun _ _ f => f), h.ds.same hk, h.es.same hk, h.bb, h.gb, h.bn⟩
theorem L4u.hd (h : L4u t w wr r b g base n1 n2 D cD E cE N C el U cU p) : wr.cell? ⟨g, 3, none⟩ = some (.slice U p.2.length cU) := h.tm.cfg.at_ 3
/-- A unit has been appended (the world w'), and the header is stored. -/
theorem L4u.step (h : L4u t w wr r b g base n1 n2 D cD E cE N C el U cU p) {l' : List E3} {n y : Nat} {x : Option Addr} (hg : wr.grownBy w' (Value.slice U p.2.length cU).ownBlock) (ho : Own w' n2 55 3 (.slice x n y) n (e3cells l')) (hn : n = l'.length) :
    L4u t w (w'.setCell ⟨g, 3, none⟩ (.slice x n y)) r b g base n1 n2 D cD E cE N C el x y (p.1, l') := by
  subst hn
  have hk : Keep (fun i => n2 ≤ i) wr w' := (Keep.refl _ _).grown hg (fun x e _ => h.own.block x e)
  have hp : Keep (· = g) w' (w'.setCell ⟨g, 3, none⟩ (.slice x l'.length y)) := (Keep.refl (· = g) w').put 3 _
  have h1 := h.bb; have h2 := h.gb; have h3 := h.bn; have h4 := h.tm.gb
  exact ⟨(h.tm.far hk (fun _ e => e)).set 3 _ rfl (by simp [CF.cells]), ho.keepB hp (fun i hi e => by have e2 : i = g := e; have := ho.block i hi; omega),
    (h.ds.keep hk (fun i _ e => Or.inr e)).keep hp (fun i _ e => Or.inl (by have e2 : i = g := e; omega)), (h.es.keep hk (fun i _ e => Or.inr e)).keep hp (fun i _ e => Or.inl (by have e2 : i = g := e; omega)), h1, h2, h3⟩
end
def L4 (w wr : World) (r b g base n1 n2 : Nat) (D : Option Addr) (cD : Nat) (E : Option Addr) (cE : Nat) (N C : Nat) (el : List E3) (p : Int × List E3) : Prop := ∃ U cU, L4u 60 w wr r b g base n1 n2 D cD E cE N C el U cU p
theorem L4.start {w wr : World} {r b g base n1 : Nat} {s : Int} {N C : Nat} {D E : Option Addr} {cD cE : Nat} {el : List E3} (ht : TM w wr 60 r b g n1 s { cfA C with D := D, cD := cD, dis := disL N C, E := E, cE := cE, edg := el })
    (ho : Own wr n1 62 3 (.slice E el.length cE) el.length (e3cells el)) (hs : Sl wr (fun i => i < base ∨ n1 ≤ i) 1 D N (icellsC (disL N C))) (hb : b < base) (hg : g < base) (hn : base ≤ n1) : L4 w wr r b g base n1 wr.heap.size D cD E cE N C el (s, []) :=
  ⟨none, 0, ht.rise ht.top (Nat.le_refl _), Own.nil _ _ _ _, hs.wide (fun i hi h => h.imp id (fun h => by have := ht.top; omega)), ho.slN.wide (fun i hi h => by rcases h with h | h; exact h; omega), hb, hg, hn⟩
def LL (w wr : World) (A : Option Addr) (c : Nat) (l : List Int) : Prop := Same w wr ∧ Own wr w.heap.size 3 1 (.slice A l.length c) l.length (icellsC l)
theorem icC_app (l m : List Int) : icellsC (l ++ m) = icellsC l ++ icellsC m := by simp [icellsC]
def TownIs (cf : CF) (n c u : Nat) (s : Int) : Prop := cf.cen = c ∧ cf.dis = disL n c ∧ cf.edg = (edgS n s).2 ∧ cf.uni = town n c u s ∧
    (∃ K1 K2 : Option Addr, cf.pla = [⟨⟨#[104, 101, 97, 114, 116]⟩, 1, K1, 2, [2, 1]⟩, ⟨⟨#[102, 105, 114, 101]⟩, 2, K2, 2, [1, 3]⟩]) ∧
    cf.h0 = 2 ∧ cf.h1 = 10 ∧ cf.h2 = 12 ∧ cf.h3 = 20 ∧ cf.h4 = 30 ∧ cf.h5 = 4 ∧ cf.h6 = 10 ∧ cf.h7 = 50 ∧ cf.h8 = 1 ∧ cf.h9 = 8
theorem town_ret {w w' : World} {n c u : Nat} {s : Int} {cf : CF} (h1 : 1 ≤ c) (h2 : c ≤ 9) (h3 : c ≤ n) (h4 : n ≤ 64) (h6 : u ≤ 256) (h : TownIs cf n c u s) (hC : CM w' cf) (hK : Same w w') :
    TownPost w n c u s (.returned (.tuple #[.agg cf.cells.toArray, .int .i64 0])) w' :=
  ⟨fun hn => absurd (show okN n c u from ⟨⟨by omega, by omega⟩, ⟨by omega, by omega⟩, by omega, by omega⟩) hn, fun _ => ⟨cf, rfl, hC, h⟩, hK⟩
/-- The configuration when all is written. -/
def cfZ (C N : Nat) (D : Option Addr) (cD : Nat) (E : Option Addr) (cE : Nat) (el : List E3) (U : Option Addr) (cU : Nat) (ul : List E3) (z : Nat) : CF :=
  { cfA C with D := D, cD := cD, dis := disL N C, E := E, cE := cE, edg := el, U := U, cU := cU, uni := ul, P := some ⟨z + 1 + 1, 0, none⟩, cP := 2, pla := [⟨⟨#[104, 101, 97, 114, 116]⟩, 1, some ⟨z, 0, none⟩, 2, [2, 1]⟩, ⟨⟨#[102, 105, 114, 101]⟩, 2, some ⟨z + 1, 0, none⟩, 2, [1, 3]⟩] }
theorem L4u.done {t : TypeId} {w wr : World} {r b g base n1 n2 N C : Nat} {D E U : Option Addr} {cD cE cU : Nat} {el : List E3} {p : Int × List E3} (h : L4u t w wr r b g base n1 n2 D cD E cE N C el U cU p)
    (h1 : (disL N C).length ≤ maxLen) (h2 : el.length ≤ maxLen) (h3 : p.2.length ≤ maxLen) (hr : r < base) (vs : Array Value) :
    (TM w ((((wr.alloc (.cells #[.int .i64 2, .int .i64 1] 3)).alloc (.cells #[.int .i64 1, .int .i64 3] 3)).alloc (.cells #[.string ⟨#[104, 101, 97, 114, 116]⟩, .int .i64 1, .slice (some ⟨wr.heap.size, 0, none⟩) 2 2, .string ⟨#[102, 105, 114, 101]⟩, .int .i64 2, .slice (some ⟨wr.heap.size + 1, 0, none⟩) 2 2] 57)).setCell ⟨g, 4, none⟩ (.slice (some ⟨wr.heap.size + 1 + 1, 0, none⟩) 2 2)) t r b g n2 p.1 (cfZ C N D cD E cE el U cU p.2 wr.heap.size)) ∧
    CM (((((wr.alloc (.cells #[.int .i64 2, .int .i64 1] 3)).alloc (.cells #[.int .i64 1, .int .i64 3] 3)).alloc (.cells #[.string ⟨#[104, 101, 97, 114, 116]⟩, .int .i64 1, .slice (some ⟨wr.heap.size, 0, none⟩) 2 2, .string ⟨#[102, 105, 114, 101]⟩, .int .i64 2, .slice (some ⟨wr.heap.size + 1, 0, none⟩) 2 2] 57)).setCell ⟨g, 4, none⟩ (.slice (some ⟨wr.heap.size + 1 + 1, 0, none⟩) 2 2)).setRow r vs) (cfZ C N D cD E cE el U cU p.2 wr.heap.size) := by
  have k3 : Same wr (((wr.alloc (.cells #[.int .i64 2, .int .i64 1] 3)).alloc (.cells #[.int .i64 1, .int .i64 3] 3)).alloc (.cells #[.string ⟨#[104, 101, 97, 114, 116]⟩, .int .i64 1, .slice (some ⟨wr.heap.size, 0, none⟩) 2 2, .string ⟨#[102, 105, 114, 101]⟩, .int .i64 2, .slice (some ⟨wr.heap.size + 1, 0, none⟩) 2 2] 57)) := (((Keep.refl _ wr).alloc _).alloc _).alloc _
  have hp : Keep (· = g) (((wr.alloc (.cells #[.int .i64 2, .int .i64 1] 3)).alloc (.cells #[.int .i64 1, .int .i64 3] 3)).alloc (.cells #[.string ⟨#[104, 101, 97, 114, 116]⟩, .int .i64 1, .slice (some ⟨wr.heap.size, 0, none⟩) 2 2, .string ⟨#[102, 105, 114, 101]⟩, .int .i64 2, .slice (some ⟨wr.heap.size + 1, 0, none⟩) 2 2] 57)) ((((wr.alloc (.cells #[.int .i64 2, .int .i64 1] 3)).alloc (.cells #[.int .i64 1, .int .i64 3] 3)).alloc (.cells #[.string ⟨#[104, 101, 97, 114, 116]⟩, .int .i64 1, .slice (some ⟨wr.heap.size, 0, none⟩) 2 2, .string ⟨#[102, 105, 114, 101]⟩, .int .i64 2, .slice (some ⟨wr.heap.size + 1, 0, none⟩) 2 2] 57)).setCell ⟨g, 4, none⟩ (.slice (some ⟨wr.heap.size + 1 + 1, 0, none⟩) 2 2)) := (Keep.refl (· = g) _).put 4 _
  have hv := Keep.row ((((wr.alloc (.cells #[.int .i64 2, .int .i64 1] 3)).alloc (.cells #[.int .i64 1, .int .i64 3] 3)).alloc (.cells #[.string ⟨#[104, 101, 97, 114, 116]⟩, .int .i64 1, .slice (some ⟨wr.heap.size, 0, none⟩) 2 2, .string ⟨#[102, 105, 114, 101]⟩, .int .i64 2, .slice (some ⟨wr.heap.size + 1, 0, none⟩) 2 2] 57)).setCell ⟨g, 4, none⟩ (.slice (some ⟨wr.heap.size + 1 + 1, 0, none⟩) 2 2)) r vs
  have hrl := h.tm.res.lt
  have hrn := h.tm.rb
  have b1 := Blk.made wr 3 #[.int .i64 2, .int .i64 1]
  have b2 := Blk.made (wr.alloc (.cells #[.int .i64 2, .int .i64 1] 3)) 3 #[.int .i64 1, .int .i64 3]
  have b3 := Blk.made ((wr.alloc (.cells #[.int .i64 2, .int .i64 1] 3)).alloc (.cells #[.int .i64 1, .int .i64 3] 3)) 57 #[.string ⟨#[104, 101, 97, 114, 116]⟩, .int .i64 1, .slice (some ⟨wr.heap.size, 0, none⟩) 2 2, .string ⟨#[102, 105, 114, 101]⟩, .int .i64 2, .slice (some ⟨wr.heap.size + 1, 0, none⟩) 2 2]
  have hg := h.tm.cfg.lt
  have q1 := ((b1.alloc (.cells #[.int .i64 1, .int .i64 3] 3)).alloc (.cells #[.string ⟨#[104, 101, 97, 114, 116]⟩, .int .i64 1, .slice (some ⟨wr.heap.size, 0, none⟩) 2 2, .string ⟨#[102, 105, 114, 101]⟩, .int .i64 2, .slice (some ⟨wr.heap.size + 1, 0, none⟩) 2 2] 57))
  have q2 := b2.alloc (.cells #[.string ⟨#[104, 101, 97, 114, 116]⟩, .int .i64 1, .slice (some ⟨wr.heap.size, 0, none⟩) 2 2, .string ⟨#[102, 105, 114, 101]⟩, .int .i64 2, .slice (some ⟨wr.heap.size + 1, 0, none⟩) 2 2] 57)
  simp only [World.size_alloc] at q2 b3
  have hb := h.bb; have hgb := h.gb; have hbn := h.bn; have hgn := h.tm.gb
  refine ⟨(h.tm.same k3).set 4 _ rfl (by simp [CF.cells, cfZ]), ?_⟩
  refine ⟨?_, ?_, ?_, ?_, ?_, h1, h2, h3, (show (2 : Nat) ≤ maxLen by unfold maxLen; decide), Nat.le_refl 2⟩
  · have := ((h.ds.same k3).keep hp (fun i _ e => Or.inl (by have e2 : i = g := e; omega))).keep hv (fun i _ e => Or.inl (by have e2 : i = r := e; omega))
    have := this.wide (Av' := fun _ => False) (fun _ _ f => f.elim)
    simpa [cfZ, disL_len] using this
  · exact (((h.es.same k3).keep hp (fun i _ e => Or.inl (by have e2 : i = g := e; omega))).keep hv (fun i _ e => Or.inl (by have e2 : i = r := e; omega))).wide (fun _ _ f => f.elim)
  · exact ((((h.own.keepB k3 (fun _ _ f => f)).keepB hp (fun i hi e => by have e2 : i = g := e; have := h.own.block i hi; omega)).keepB hv (fun i hi e => by have e2 : i = r := e; have := h.own.block i hi; omega)).sl (Av := fun _ => False) (fun _ _ f => f))
  · exact Sl.of_blk (n := 2) (size := 3) ((b3.keep hp (by omega)).keep hv (by omega)) rfl (fun f => f)
  · intro q hq
    simp only [cfZ, List.mem_cons, List.not_mem_nil, or_false] at hq
    rcases hq with rfl | rfl
    · exact ⟨Sl.of_blk (n := 2) (size := 1) ((q1.keep hp (by omega)).keep hv (by omega)) rfl (fun f => f), (show (2 : Nat) ≤ maxLen by unfold maxLen; decide), (show (5 : Nat) ≤ maxLen by unfold maxLen; decide)⟩
    · exact ⟨Sl.of_blk (n := 2) (size := 1) ((q2.keep hp (by omega)).keep hv (by omega)) rfl (fun f => f), (show (2 : Nat) ≤ maxLen by unfold maxLen; decide), (show (4 : Nat) ≤ maxLen by unfold maxLen; decide)⟩
set_option maxRecDepth 100000 in
set_option maxHeartbeats 4000000 in
theorem town_ok (w : World) (N C U : Nat) (s : Int) (h1 : 1 ≤ C) (h2 : C ≤ 9) (h3 : C ≤ N) (h4 : N ≤ 64) (h6 : U ≤ 256) (s0 : 0 ≤ s) (s1 : s ≤ 18446744073709551615) :
    Calls Tryd.prog 5 #[.int .i64 N, .int .i64 C, .int .i64 U, .int .u64 s] w (TownPost w N C U s) := by
  have h5 : (0 : Int) ≤ (U : Int) := Int.natCast_nonneg _
  have hz := Blk.made w 30 z15.toArray
  have HK := hid ((Keep.refl (fun _ => False) w).alloc (.cells z15.toArray 30))
  have HDE := hid rdefault_any
  simp only [z15] at hz HK
  go_enter Tryd.func5, Tryd.ntmps5
  go_upto_region 1 with fail
  generalize (w.alloc (.cells #[.int .i64 0, .slice none 0 0, .slice none 0 0, .slice none 0 0, .slice none 0 0, .int .i64 0, .int .i64 0, .int .i64 0, .int .i64 0, .int .i64 0, .int .i64 0, .int .i64 0, .int .i64 0, .int .i64 0, .int .i64 0] 30)) = w1 at *
  have HZ := hid hz
  clear hz
  go_upto_region 4 with fail
  have hd := Gn.new (w := w1) (t := 60) s0 s1
  have hk := (Keep.refl (fun _ => False) w1).alloc (.cells #[.int .u64 s] 60)
  have hbl := HZ.out.lt
  generalize (w1.alloc (.cells #[.int .u64 s] 60)) = w2 at *
  have HD := hid hd
  have HZ2 := hid (HZ.out.keep hk (fun f => f))
  have HK2 := hid (HK.out.then hk)
  have HBL := hid hbl
  clear hd hk hbl HZ HK
  go_wp2_with fail
  (with_reducible refine (HDE.out _).mono ?_)
  rintro e w3 ⟨rfl, hk3⟩
  have HD3 := hid (HD.out.keep (S := fun _ => False) hk3 (fun f => f))
  have HZ3 := hid (HZ2.out.keep hk3 (fun f => f))
  have HK3 := hid (HK2.out.then hk3)
  clear hk3 HD HZ2 HK2
  go_upto_region 5 with (refine wpList_store_row rfl _ (.tmp 11) (.tmp 53) rfl w3.heap.size dflt.cells.toArray rfl rfl _ _ (Blk.made w3 30 z15.toArray) (by kernel_rfl) rfl (one_toArray (CF.one dflt)) ?_)
  have hB := (Blk.made w3 30 z15.toArray).row dflt.cells.toArray
  have hK : Same w3 ((w3.alloc (.cells z15.toArray 30)).setRow w3.heap.size dflt.cells.toArray) := ((Keep.refl _ w3).alloc _).trans (Keep.row _ _ _) (fun i hi e => by have e2 : i = w3.heap.size := e; omega)
  simp only [z15] at hB hK ⊢
  generalize ((w3.alloc (.cells #[.int .i64 0, .slice none 0 0, .slice none 0 0, .slice none 0 0, .slice none 0 0, .int .i64 0, .int .i64 0, .int .i64 0, .int .i64 0, .int .i64 0, .int .i64 0, .int .i64 0, .int .i64 0, .int .i64 0, .int .i64 0] 30)).setRow w3.heap.size dflt.cells.toArray) = w4 at *
  have b0 : w4.cell? ⟨w3.heap.size, 0, none⟩ = some (.int .i64 0) := hB.at_ 0
  have f0 := hB.free 0
  have HB := hid hB
  have HKW := hid hK
  clear hB hK
  go_upto_region 6 with fail
  have hT4 : TM w w4 60 w.heap.size w1.heap.size w3.heap.size w4.heap.size s dflt :=
    ⟨Nat.le_refl _, Nat.le_of_lt HBL.out, HK3.out.size, Nat.lt_of_lt_of_le HZ3.out.lt HKW.out.size, Nat.lt_of_lt_of_le HD3.out.blk.lt HKW.out.size, HB.out.lt, Nat.ne_of_lt HBL.out, Nat.ne_of_lt HZ3.out.lt, Nat.ne_of_lt HD3.out.blk.lt, Nat.le_refl _,
      HZ3.out.keep HKW.out (fun f => f), HB.out, HD3.out.keep (S := fun _ => False) HKW.out (fun f => f), HK3.out.then HKW.out⟩
  have hT5 := hT4.set (c' := cfA C) 0 (.int .i64 C) rfl rfl
  have hD5 : Own (w4.setCell ⟨w3.heap.size, 0, none⟩ (.int .i64 C)) w4.heap.size 3 1 (.slice none 0 0) 0 [] := Own.nil _ _ _ _
  clear b0 f0 HB HKW HZ3 HD3 HK3 hT4 HBL
  generalize (w4.setCell ⟨w3.heap.size, 0, none⟩ (.int .i64 C)) = w5 at *
  generalize w.heap.size = r at *
  generalize w1.heap.size = b at *
  generalize w3.heap.size = g at *
  generalize w4.heap.size = base at *
  have HT5 := hid hT5
  clear hT5 hD5
  go_wp2_with fail
  go_loopw [12] (fun i wr => ∃ k : Nat, k ≤ N ∧ i = .int .i64 k ∧ Hid (L1 w wr r b g base s N C k)) (fun i _ => N - (RowKit.intOf i).toNat)
  case atStart => exact ⟨0, Nat.zero_le _, rfl, ⟨none, 0, HT5.out, Own.nil _ _ _ _⟩⟩
  case round =>
    obtain ⟨k, hk, rfl, HL⟩ := hrel
    clear HT5
    by_cases hkn : k < N
    · obtain ⟨D, cD, ht, ho⟩ := HL.out
      have c1 : wr.cell? ⟨g, 1, none⟩ = some (.slice D k cD) := (ht.cfg.at_ 1).trans (by simp [CF.cells, disP])
      have f1 := ht.cfg.free 1
      have HT := hid ht
      have HO := hid ho
      have HC1 := hid c1
      have hd0 : IntKind.i64.wrap ((k : Int) * (C : Int)) = ((k * C : Nat) : Int) := by
        have : k * C ≤ 64 * 9 := Nat.mul_le_mul (by omega) h2
        rw [← Int.natCast_mul, IntKind.wrap_i64]
        generalize k * C = m at this ⊢
        omega
      have hdl := disN_lt (c := C) hkn
      have hdv : IntKind.i64.wrap (((k : Int) * (C : Int)).tdiv (N : Int)) = ((disN N C k : Nat) : Int) := by
        rw [← Int.natCast_mul, Int.tdiv_eq_ediv_of_nonneg (Int.natCast_nonneg _), ← Int.natCast_ediv, IntKind.wrap_i64]
        show _ = ((k * C / N : Nat) : Int)
        have : k * C / N < C ∨ C = 0 := hdl
        generalize k * C / N = m at this ⊢
        omega
      have hN0 : (N = 0) = False := by simp; omega
      clear ht ho
      go_upto_region 9 with fail
      refine wp_region_held_drew (S := fun _ => True) (by kernel_rfl) trivial (fun hHeld => ?_)
      refine takeO (i := 0) (v := ?_) (by kernel_rfl) (by kernel_rfl) (by kernel_rfl) (fun c a d v w h => by cases d <;> exact h) (oi := ?_) ?_ ?_ (by assumption) ?_
      rotate_left 2
      · (simp only [List.getElem?_toArray, List.getElem?_cons_zero]; rfl)
      · (refine Or.inl ⟨by rfl, ?_⟩; intro w hSw; (try dsimp only at hSw); go_simp; try with_reducible rfl)
      try simp only [Act.put, List.setIfInBounds_toArray, List.set_cons_zero, List.set_cons_succ]
      refine takeO (i := 2) (v := ?_) (by kernel_rfl) (by kernel_rfl) (by kernel_rfl) (fun c a d v w h => by cases d <;> exact h) (oi := ?_) ?_ ?_ (by assumption) ?_
      rotate_left 2
      · (simp only [List.getElem?_toArray, List.getElem?_cons_succ, List.getElem?_cons_zero]; rfl)
      · (refine Or.inl ⟨by rfl, ?_⟩; intro w hSw; (try dsimp only at hSw); go_simp; try with_reducible rfl)
      try simp only [Act.put, List.setIfInBounds_toArray, List.set_cons_zero, List.set_cons_succ]
      refine takeO (i := 3) (v := ?_) (by kernel_rfl) (by kernel_rfl) (by kernel_rfl) (fun c a d v w h => by cases d <;> exact h) (oi := ?_) ?_ ?_ (by assumption) ?_
      rotate_left 2
      · (simp only [List.getElem?_toArray, List.getElem?_cons_succ, List.getElem?_cons_zero]; rfl)
      · (refine Or.inl ⟨by rfl, ?_⟩; intro w hSw; (try dsimp only at hSw); go_simp; try with_reducible rfl)
      try simp only [Act.put, List.setIfInBounds_toArray, List.set_cons_zero, List.set_cons_succ]
      refine takeO (i := 4) (v := ?_) (by kernel_rfl) (by kernel_rfl) (by kernel_rfl) (fun c a d v w h => by cases d <;> exact h) (oi := ?_) ?_ ?_ (by assumption) ?_
      rotate_left 2
      · (simp only [List.getElem?_toArray, List.getElem?_cons_succ, List.getElem?_cons_zero]; rfl)
      · (refine Or.inl ⟨by rfl, ?_⟩; intro w hSw; (try dsimp only at hSw); go_simp; try with_reducible rfl)
      try simp only [Act.put, List.setIfInBounds_toArray, List.set_cons_zero, List.set_cons_succ]
      refine takeO (i := 5) (v := ?_) (by kernel_rfl) (by kernel_rfl) (by kernel_rfl) (fun c a d v w h => by cases d <;> exact h) (oi := ?_) ?_ ?_ (by assumption) ?_
      rotate_left 2
      · (simp only [List.getElem?_toArray, List.getElem?_cons_succ, List.getElem?_cons_zero]; rfl)
      · (refine Or.inl ⟨by rfl, ?_⟩; intro w hSw; (try dsimp only at hSw); go_simp; try with_reducible rfl)
      try simp only [Act.put, List.setIfInBounds_toArray, List.set_cons_zero, List.set_cons_succ]
      refine takeO (i := 6) (v := ?_) (by kernel_rfl) (by kernel_rfl) (by kernel_rfl) (fun c a d v w h => by cases d <;> exact h) (oi := ?_) ?_ ?_ (by assumption) ?_
      rotate_left 2
      · (simp only [List.getElem?_toArray, List.getElem?_cons_succ, List.getElem?_cons_zero]; rfl)
      · (refine Or.inl ⟨by rfl, ?_⟩; intro w hSw; (try dsimp only at hSw); go_simp; try with_reducible rfl)
      try simp only [Act.put, List.setIfInBounds_toArray, List.set_cons_zero, List.set_cons_succ]
      clear hHeld
      have hkd : Same wr wr.drew := (Keep.refl _ _).drew
      generalize wr.drew = wd at *
      apply one_restA (F := fun _ _ _ W => L1 w W r b g base s N C (k + 1))
      case main =>
        intro REST
        refine wpAnyH_ready (rs := [1, 7]) (by kernel_rfl) (by simp) ?_
        refine AllReadyH.cons rfl (fun K hK => ?_) (AllReadyH.cons rfl (fun K hK => ?_) AllReadyH.nil)
        · have e1 : (wd).cell? ⟨g, 1, none⟩ = some (.slice D k cD) := (hkd.cell HT.out.cfg.lt (fun f => f)).trans HC1.out
          go_simp
          clear e1
          refine hK.out _ _ trivial (fun hHeld1 => ?_)
          clear hK K
          try simp only [Act.put, List.setIfInBounds_toArray, List.set_cons_zero, List.set_cons_succ]
          refine wpAnyH_ready (rs := [7]) (by kernel_rfl) (by simp) ?_
          refine AllReadyH.cons rfl (fun K hK => ?_) AllReadyH.nil
          go_simp
          have hb2 := Blk.made (wd) 3 #[.int .i64 ((disN N C k : Nat) : Int)]
          have hk2 : Same wr ((wd).alloc (.cells #[.int .i64 ((disN N C k : Nat) : Int)] 3)) := (hkd).alloc _
          obtain ⟨g2, hg2⟩ : ∃ g, g = (wd).heap.size := ⟨_, rfl⟩
          rw [← hg2] at hb2 ⊢
          clear hg2
          generalize ((wd).alloc (.cells #[.int .i64 ((disN N C k : Nat) : Int)] 3)) = wq2 at *
          refine hK.out _ _ trivial (fun hHeld2 => ?_)
          clear hK K
          try simp only [Act.put, List.setIfInBounds_toArray, List.set_cons_zero, List.set_cons_succ]
          refine wpAnyH_ready (rs := [8]) (by kernel_rfl) (by simp) ?_
          refine AllReadyH.cons rfl (fun K hK => ?_) AllReadyH.nil
          refine EInt.step2 rfl (.tmp 62) (.tmp 68) rfl (.slice D k cD) (some ⟨g2, 0, none⟩) 1 1 rfl rfl base k (icellsC (disP N C k)) [.int .i64 ((disN N C k : Nat) : Int)] (k + 1) (icellsC (disP N C (k + 1))) rfl (by rw [disP_snoc]; simp [icellsC]) (HO.out.keepB (S := fun _ => False) hk2 (fun _ _ f => f)) rfl (fun _ => ⟨_, rfl, src_blk hb2⟩) (by intro u hu; simp at hu; subst hu; rfl) (by omega) (by unfold maxLen; omega) (Nat.le_trans HT.out.top hk2.size) ?_
          intro A7 c7 w7 ho7 hg7 hw7
          refine hK.out _ _ trivial (fun hHeld53 => ?_)
          clear hK K
          try simp only [Act.put, List.setIfInBounds_toArray]
          refine takeO (i := 9) (v := ?_) (by kernel_rfl) (by kernel_rfl) (by kernel_rfl) (fun c a d v w h => by cases d <;> exact h) (oi := ?_) ?_ ?_ (by assumption) ?_
          rotate_left 2
          · (simp only [List.getElem?_toArray, List.getElem?_cons_succ, List.getElem?_cons_zero]; rfl)
          · (refine Or.inl ⟨by rfl, ?_⟩; intro w hSw; (try dsimp only at hSw); go_simp; try with_reducible rfl)
          try simp only [Act.put]
          refine wpAnyH_ready (rs := [10]) (by kernel_rfl) (by simp) ?_
          refine AllReadyH.cons rfl (fun K hK => ?_) AllReadyH.nil
          have ht7 := (HT.out.same hk2).far ((Keep.refl (fun i => base ≤ i) _).grown hg7 (fun x e _ => HO.out.block x e)) (fun i e => e)
          have x2 : w7.cell? ⟨g, 1, none⟩ = some (.slice D k cD) := (ht7.cfg.at_ 1).trans (by simp [CF.cells, disP])
          have x3 := ht7.cfg.free 1
          go_simp
          refine hK.out _ _ trivial (fun hHeldZ => ?_)
          clear hK K
          try simp only [Act.put, List.setIfInBounds_toArray, List.set_cons_zero, List.set_cons_succ]
          refine wpAnyH_done (by kernel_rfl) ?_ _
          exact REST A7 c7 g2 _ (L1.step (x := A7) (y := c7) ht7 ho7 rfl)
        · go_simp
          have hb1 := Blk.made (wd) 3 #[.int .i64 ((disN N C k : Nat) : Int)]
          have hk1 : Same wr ((wd).alloc (.cells #[.int .i64 ((disN N C k : Nat) : Int)] 3)) := (hkd).alloc _
          obtain ⟨g1, hg1⟩ : ∃ g, g = (wd).heap.size := ⟨_, rfl⟩
          rw [← hg1] at hb1 ⊢
          clear hg1
          generalize ((wd).alloc (.cells #[.int .i64 ((disN N C k : Nat) : Int)] 3)) = wq1 at *
          refine hK.out _ _ trivial (fun hHeld1 => ?_)
          clear hK K
          try simp only [Act.put, List.setIfInBounds_toArray, List.set_cons_zero, List.set_cons_succ]
          refine wpAnyH_ready (rs := [1]) (by kernel_rfl) (by simp) ?_
          refine AllReadyH.cons rfl (fun K hK => ?_) AllReadyH.nil
          have e2 : (wq1).cell? ⟨g, 1, none⟩ = some (.slice D k cD) := (hk1.cell HT.out.cfg.lt (fun f => f)).trans HC1.out
          go_simp
          clear e2
          refine hK.out _ _ trivial (fun hHeld2 => ?_)
          clear hK K
          try simp only [Act.put, List.setIfInBounds_toArray, List.set_cons_zero, List.set_cons_succ]
          refine wpAnyH_ready (rs := [8]) (by kernel_rfl) (by simp) ?_
          refine AllReadyH.cons rfl (fun K hK => ?_) AllReadyH.nil
          refine EInt.step2 rfl (.tmp 62) (.tmp 68) rfl (.slice D k cD) (some ⟨g1, 0, none⟩) 1 1 rfl rfl base k (icellsC (disP N C k)) [.int .i64 ((disN N C k : Nat) : Int)] (k + 1) (icellsC (disP N C (k + 1))) rfl (by rw [disP_snoc]; simp [icellsC]) (HO.out.keepB (S := fun _ => False) hk1 (fun _ _ f => f)) rfl (fun _ => ⟨_, rfl, src_blk hb1⟩) (by intro u hu; simp at hu; subst hu; rfl) (by omega) (by unfold maxLen; omega) (Nat.le_trans HT.out.top hk1.size) ?_
          intro A7 c7 w7 ho7 hg7 hw7
          refine hK.out _ _ trivial (fun hHeld53 => ?_)
          clear hK K
          try simp only [Act.put, List.setIfInBounds_toArray]
          refine takeO (i := 9) (v := ?_) (by kernel_rfl) (by kernel_rfl) (by kernel_rfl) (fun c a d v w h => by cases d <;> exact h) (oi := ?_) ?_ ?_ (by assumption) ?_
          rotate_left 2
          · (simp only [List.getElem?_toArray, List.getElem?_cons_succ, List.getElem?_cons_zero]; rfl)
          · (refine Or.inl ⟨by rfl, ?_⟩; intro w hSw; (try dsimp only at hSw); go_simp; try with_reducible rfl)
          try simp only [Act.put]
          refine wpAnyH_ready (rs := [10]) (by kernel_rfl) (by simp) ?_
          refine AllReadyH.cons rfl (fun K hK => ?_) AllReadyH.nil
          have ht7 := (HT.out.same hk1).far ((Keep.refl (fun i => base ≤ i) _).grown hg7 (fun x e _ => HO.out.block x e)) (fun i e => e)
          have x2 : w7.cell? ⟨g, 1, none⟩ = some (.slice D k cD) := (ht7.cfg.at_ 1).trans (by simp [CF.cells, disP])
          have x3 := ht7.cfg.free 1
          go_simp
          refine hK.out _ _ trivial (fun hHeldZ => ?_)
          clear hK K
          try simp only [Act.put, List.setIfInBounds_toArray, List.set_cons_zero, List.set_cons_succ]
          refine wpAnyH_done (by kernel_rfl) ?_ _
          exact REST A7 c7 g1 _ (L1.step (x := A7) (y := c7) ht7 ho7 rfl)
      case rest =>
        intro A7 c7 g7 W7 hF
        have HF := hid hF
        clear hF c1 f1 hkd HT HO HC1 hd0 hdv hN0 hdl
        go_wp2_with fail
        go_round
        case rel => exact ⟨k + 1, by omega, by go_num, HF⟩
        case measure => simp [RowKit.intOf]; omega
    · obtain rfl : k = N := by omega
      obtain ⟨D, cD, ht, ho⟩ := HL.out
      have hN : 1 ≤ k := by omega
      have HL2 := hid (L2.start ht ho)
      have hbb : b < base := ht.bb
      have hgb : g < base := ht.gb
      have hrb : r < base := ht.rb
      have hbn : base ≤ wr.heap.size := ht.top
      clear ht ho HL
      generalize wr.heap.size = n1 at *
      go_wp2_with fail
      go_loopw [13] (fun i wq => ∃ j : Nat, j ≤ k ∧ (k ≤ 1 → j = 0) ∧ i = .int .i64 j ∧ Hid (L2 w wq r b g base n1 D cD k C (ringS k s j))) (fun i _ => k - (RowKit.intOf i).toNat)
      case atStart => exact ⟨0, Nat.zero_le _, fun _ => rfl, rfl, HL2⟩
      case round =>
        obtain ⟨j, hj, hj1, rfl, HL⟩ := hrel
        clear HL2
        by_cases hgo : 1 < k ∧ j < k
        · obtain ⟨hk1, hjk⟩ := hgo
          obtain ⟨E, cE, ht, ho, hs⟩ := HL.out
          have HT := hid ht
          have HO := hid ho
          have HS := hid hs
          obtain ⟨q0, q1⟩ := roll9 (ringS k s j).1
          clear ht ho hs HL
          go_upto_region 13 with fail
          go_wp2_with fail
          (with_reducible refine (roll_any _ b _ 9 HT.out.rng (by omega)).mono ?_)
          rintro e w6 ⟨rfl, hg6, hk6⟩
          have HT6 := hid (HT.out.draw hg6 hk6)
          have hbn : b < n1 := HT.out.bb
          have HO6 := hid (HO.out.keepB hk6 (fun x hx e => by have e2 : x = b := e; have := HO.out.block x hx; omega))
          have HS6 := hid (HS.out.keep hk6 (fun i _ e => by have e2 : i = b := e; exact Or.inl (by omega)))
          clear hg6 hk6 HT HO HS
          go_upto_region 15 with fail
          have hmd : ((j : Int) + 1) % (k : Int) = (((j + 1) % k : Nat) : Int) := by simp
          have hml := Nat.mod_lt (j + 1) (show 0 < k by omega)
          try simp only [hmd]
          have c2 : w6.cell? ⟨g, 2, none⟩ = some (.slice E (ringS k s j).2.length cE) := HT6.out.cfg.at_ 2
          have f2 := HT6.out.cfg.free 2
          have HLN := hid ((ring_ok (n := k) s j (by omega)).2)
          have HST := hid (show ringS k s (j + 1) = (aft 9 (ringS k s j).1, (ringS k s j).2 ++ two (j : Int) (((j + 1) % k : Nat) : Int) (1 + roll 9 (ringS k s j).1)) from rfl)
          clear hmd
          generalize (j + 1) % k = m at *
          generalize 1 + roll 9 (ringS k s j).1 = t at *
          generalize ringS k s j = p at *
          have HK7 := hid ((Keep.refl (fun _ => False) w6).alloc (.cells #[.int .i64 j, .int .i64 m, .int .i64 t, .int .i64 m, .int .i64 j, .int .i64 t] 62))
          have HO7 := hid (HO6.out.keepB HK7.out (fun _ _ f => f))
          have HS7 := hid (src_new (w := w6) (cs := #[.int .i64 j, .int .i64 m, .int .i64 t, .int .i64 m, .int .i64 j, .int .i64 t]) (t := 62) (news := e3cells (two j m t)) rfl)
          go_upto_region 12 with (refine EEd.law2 (.tmp 88) (.tmp 97) (.slice E p.2.length cE) (some ⟨w6.heap.size, 0, none⟩) 2 2 rfl rfl rfl rfl n1 p.2.length (e3cells p.2) (e3cells (two j m t)) (p.2.length + 2) _ rfl (e3_app p.2 (two j m t)).symm HO7.out rfl (fun _ => ⟨_, rfl, HS7.out⟩) (e3_one _) (by have := HLN.out; omega) (by have := HLN.out; unfold maxLen; omega) (Nat.le_trans HT6.out.top HK7.out.size) ?_; intro A7 c7 w7 ho7 hg7 hw7; have HO8 := hid ho7; have HG8 := hid hg7; have HT8 := hid (((HT6.out.same HK7.out).far ((Keep.refl (fun i => n1 ≤ i) _).grown hg7 (fun x e _ => HO7.out.block x e)) (fun i e => e))); clear ho7 hg7 hw7; have c3 : w7.cell? ⟨g, 2, none⟩ = some (.slice E p.2.length cE) := HT8.out.cfg.at_ 2; have f3 := HT8.out.cfg.free 2)
          have HS8 := hid ((HS6.out.same HK7.out).keep ((Keep.refl (fun i => n1 ≤ i) _).grown HG8.out (fun x e _ => HO7.out.block x e)) (fun i _ e => Or.inr e))
          clear c2 f2 c3 f3
          go_wp2_with fail
          go_round
          case rel =>
            exact ⟨j + 1, by omega, fun h => by omega, by go_num, by
              rw [HST.out]
              exact hid (L2.step HT8.out (by simp [two]) HO8.out HS8.out hgb)⟩
          case measure => simp [RowKit.intOf]; omega
        · have HR := hid (show L2 w wr r b g base n1 D cD k C (ring k s) by
            by_cases h : 1 < k
            · have e : j = k := by by_cases h2 : j < k; exact absurd ⟨h, h2⟩ hgo; omega
              rw [ring, if_pos h]; rw [e] at HL; exact HL.out
            · have e : j = 0 := hj1 (by omega)
              rw [ring, if_neg h]; rw [e] at HL; exact HL.out)
          clear HL
          go_upto_region 11 with fail
          go_cut [77] from 71 to 76 (fun v w' => v = .bool false ∧ w' = wr)
          case first =>
            by_cases h : j < k
            · have h2 : ¬ 1 < k := fun h3 => hgo ⟨h3, h⟩
              clear hgo HR
              go_wp2_with fail
              go_meet
              case rel => exact ⟨congrArg Value.bool (decide_eq_false (by omega)), rfl⟩
            · clear hgo HR
              go_wp2_with fail
              go_meet
              case rel => exact ⟨rfl, rfl⟩
          case rest =>
            obtain ⟨rfl, rfl⟩ := hcut
            clear hgo hj hj1
            have hNk : (k : Int) / 2 = ((k / 2 : Nat) : Int) := by omega
            go_wp2_with fail
            go_loopw [16] (fun i wq => ∃ j : Nat, j ≤ k / 2 ∧ i = .int .i64 j ∧ Hid (L2 w wq r b g base n1 D cD k C (moreS k (ring k s) j))) (fun i _ => k / 2 - (RowKit.intOf i).toNat)
            case atStart => exact ⟨0, Nat.zero_le _, rfl, HR⟩
            case round =>
              obtain ⟨j, hj, rfl, HL⟩ := hrel
              clear HR
              by_cases hjk : j < k / 2
              · have HST := hid (show moreS k (ring k s) (j + 1) = (aft 9 (aft k (aft k (moreS k (ring k s) j).1)), if roll k (moreS k (ring k s) j).1 = roll k (aft k (moreS k (ring k s) j).1) then (moreS k (ring k s) j).2 else (moreS k (ring k s) j).2 ++ two (roll k (moreS k (ring k s) j).1) (roll k (aft k (moreS k (ring k s) j).1)) (1 + roll 9 (aft k (aft k (moreS k (ring k s) j).1)))) from rfl)
                have HLN := hid (show (moreS k (ring k s) j).2.length ≤ 200 by
                  have h1 := (ring_ok (n := k) s k (Nat.le_refl _)).2
                  have h2 : (ring k s).2.length ≤ 2 * k := by
                    unfold ring; split
                    · rw [h1]; exact Nat.le_refl _
                    · exact Nat.zero_le _
                  have h3 : (∀ e ∈ (ring k s).2, EdOk k e) := by
                    unfold ring; split
                    · exact (ring_ok s k (Nat.le_refl _)).1
                    · exact fun e he => absurd he (by simp)
                  have := (more_ok hN (ring k s) h3 j).2.1
                  omega)
                generalize moreS k (ring k s) j = p at *
                obtain ⟨a0, a1⟩ := roll_in k p.1 (by omega)
                obtain ⟨b0, b1⟩ := roll_in k (aft k p.1) (by omega)
                obtain ⟨t0, t1⟩ := roll9 (aft k (aft k p.1))
                clear hNk
                go_upto_region 19 with fail
                go_wp2_with fail
                (with_reducible refine (roll_any _ b (p.1) k (show Gn _ _ b (p.1) from HL.out.rng) (by omega)).mono ?_)
                rintro e v1 ⟨rfl, hg, hk⟩
                have HLn := hid (show L2 w v1 r b g base n1 D cD k C (aft k p.1, p.2) from HL.out.drawn hg hk hbb)
                clear hg hk HL
                have HL := HLn
                clear HLn
                go_upto_region 20 with fail
                go_wp2_with fail
                (with_reducible refine (roll_any _ b (aft k p.1) k (show Gn _ _ b (aft k p.1) from HL.out.rng) (by omega)).mono ?_)
                rintro e v2 ⟨rfl, hg, hk⟩
                have HLn := hid (show L2 w v2 r b g base n1 D cD k C (aft k (aft k p.1), p.2) from HL.out.drawn hg hk hbb)
                clear hg hk HL
                have HL := HLn
                clear HLn
                go_upto_region 21 with fail
                go_wp2_with fail
                (with_reducible refine (roll_any _ b (aft k (aft k p.1)) 9 (show Gn _ _ b (aft k (aft k p.1)) from HL.out.rng) (by omega)).mono ?_)
                rintro e v3 ⟨rfl, hg, hk⟩
                have HLn := hid (show L2 w v3 r b g base n1 D cD k C (aft 9 (aft k (aft k p.1)), p.2) from HL.out.drawn hg hk hbb)
                clear hg hk HL
                have HL := HLn
                clear HLn
                generalize aft 9 (aft k (aft k p.1)) = sn at *
                generalize roll 9 (aft k (aft k p.1)) = t9 at *
                generalize roll k (aft k p.1) = y at *
                generalize roll k p.1 = x at *
                by_cases hxy : x = y
                · have HE := hid (show moreS k (ring k s) (j + 1) = (sn, p.2) by rw [HST.out, if_pos hxy])
                  clear HST
                  subst hxy
                  go_wp2_with fail
                  go_round
                  case rel => exact ⟨j + 1, by omega, by go_num, by rw [HE.out]; exact HL⟩
                  case measure => simp [RowKit.intOf]; omega
                · have HE := hid (show moreS k (ring k s) (j + 1) = (sn, p.2 ++ two x y (1 + t9)) by rw [HST.out, if_neg hxy])
                  clear HST
                  go_upto_region 23 with fail
                  clear hxy
                  obtain ⟨E, cE, ht, ho, hs⟩ := HL.out
                  have c2 : v3.cell? ⟨g, 2, none⟩ = some (.slice E p.2.length cE) := ht.cfg.at_ 2
                  have f2 := ht.cfg.free 2
                  have HT6 := hid ht
                  have HO6 := hid ho
                  have HS6 := hid hs
                  clear ht ho hs HL
                  generalize 1 + t9 = t at *
                  have HK7 := hid ((Keep.refl (fun _ => False) v3).alloc (.cells #[.int .i64 x, .int .i64 y, .int .i64 t, .int .i64 y, .int .i64 x, .int .i64 t] 62))
                  have HO7 := hid (HO6.out.keepB HK7.out (fun _ _ f => f))
                  have HS7 := hid (src_new (w := v3) (cs := #[.int .i64 x, .int .i64 y, .int .i64 t, .int .i64 y, .int .i64 x, .int .i64 t]) (t := 62) (news := e3cells (two x y t)) rfl)
                  go_upto_region 18 with (refine EEd.law2 (.tmp 119) (.tmp 128) (.slice E p.2.length cE) (some ⟨v3.heap.size, 0, none⟩) 2 2 rfl rfl rfl rfl n1 p.2.length (e3cells p.2) (e3cells (two x y t)) (p.2.length + 2) _ rfl (e3_app p.2 (two x y t)).symm HO7.out rfl (fun _ => ⟨_, rfl, HS7.out⟩) (e3_one _) (by have := HLN.out; omega) (by have := HLN.out; unfold maxLen; omega) (Nat.le_trans HT6.out.top HK7.out.size) ?_; intro A7 c7 w7 ho7 hg7 hw7; have HO8 := hid ho7; have HG8 := hid hg7; have HT8 := hid (((HT6.out.same HK7.out).far ((Keep.refl (fun i => n1 ≤ i) _).grown hg7 (fun x e _ => HO7.out.block x e)) (fun i e => e))); clear ho7 hg7 hw7; have c3 : w7.cell? ⟨g, 2, none⟩ = some (.slice E p.2.length cE) := HT8.out.cfg.at_ 2; have f3 := HT8.out.cfg.free 2)
                  have HS8 := hid ((HS6.out.same HK7.out).keep ((Keep.refl (fun i => n1 ≤ i) _).grown HG8.out (fun x e _ => HO7.out.block x e)) (fun i _ e => Or.inr e))
                  clear c2 f2 c3 f3
                  go_wp2_with fail
                  go_round
                  case rel => exact ⟨j + 1, by omega, by go_num, by rw [HE.out]; exact hid (L2.step HT8.out (by simp [two]) HO8.out HS8.out hgb)⟩
                  case measure => simp [RowKit.intOf]; omega
              · obtain ⟨E, cE, ht, ho, hs⟩ := HL.out
                have HL4 := hid (show L4 w wr r b g base n1 wr.heap.size D cD E cE k C (edgS k s).2 ((edgS k s).1, []) from by
                  have e : j = k / 2 := by omega
                  rw [e] at ht ho
                  exact L4.start (el := (edgS k s).2) ht ho hs hbb hgb hbn)
                clear ht ho hs HL hNk
                generalize wr.heap.size = n2 at *
                go_wp2_with fail
                go_loopw [20] (fun i wq => ∃ j : Nat, j ≤ U ∧ i = .int .i64 j ∧ Hid (L4 w wq r b g base n1 n2 D cD E cE k C (edgS k s).2 (unitS k C (edgS k s).1 j))) (fun i _ => U - (RowKit.intOf i).toNat)
                case atStart => exact ⟨0, Nat.zero_le _, rfl, HL4⟩
                case round =>
                  obtain ⟨j, hj, rfl, HL⟩ := hrel
                  clear HL4
                  by_cases hjU : j < U
                  · have HST := hid (show unitS k C (edgS k s).1 (j + 1) = (aft (plL k C (j % C) k).length (pickA wts (unitS k C (edgS k s).1 j).1), (unitS k C (edgS k s).1 j).2 ++ [⟨1 + pick wts (unitS k C (edgS k s).1 j).1, ((j % C : Nat) : Int), ((plL k C (j % C) k)[(roll (plL k C (j % C) k).length (pickA wts (unitS k C (edgS k s).1 j).1)).toNat]?).getD 0⟩]) from rfl)
                    have HLN := hid (show (unitS k C (edgS k s).1 j).2.length = j from (unitS_ok h1 h3 (edgS k s).1 j).2)
                    have hmC := Nat.mod_lt j (show 0 < C by omega)
                    have hmd : (j : Int) % (C : Int) = ((j % C : Nat) : Int) := by simp
                    generalize unitS k C (edgS k s).1 j = p at *
                    obtain ⟨k0, k1⟩ := pick_in p.1
                    have hlen1 := pl_pos (h := j % C) h1 h3 hmC
                    have hlen2 := pl_le k C (j % C) k
                    have hb4 := Blk.made wr 3 #[.int .i64 6, .int .i64 2, .int .i64 1, .int .i64 1]
                    obtain ⟨U0, cU, HLu⟩ := HL.out
                    have HLa := hid (HLu.same ((Keep.refl (fun _ => False) wr).alloc (.cells #[.int .i64 6, .int .i64 2, .int .i64 1, .int .i64 1] 3)))
                    have HSw := hid (Sl.of_blk (Av := fun i => i = b) (n := 4) (size := 1) hb4 rfl (fun e => by have := HLu.tm.rng.blk.lt; omega))
                    clear hb4 HLu HL
                    go_upto_region 27 with fail
                    go_wp2_with fail
                    (with_reducible refine (dpick_any _ b p.1 _ 4 _ wts HLa.out.tm.rng (by omega) (fun i => i = b) rfl HSw.out).mono ?_)
                    rintro e v1 ⟨rfl, hg, hk⟩
                    have HL := hid (show L4u _ w v1 r b g base n1 n2 D cD E cE k C (edgS k s).2 U0 cU (pickA wts p.1, p.2) from HLa.out.drawn hg hk)
                    clear hg hk HLa HSw
                    generalize pick wts p.1 = pk at *
                    generalize pickA wts p.1 = s1 at *
                    have hd1 : v1.cell? ⟨g, 1, none⟩ = some (.slice D k cD) := (HL.out.tm.cfg.at_ 1).trans (by simp [CF.cells, disL_len])
                    go_upto_region 30 with fail
                    simp only [hmd]
                    clear hmd
                    generalize j % C = h at *
                    obtain ⟨bd, od, rfl, hbd, _⟩ := ints_at HL.out.ds (disL_at (n := k) (c := C) (i := 0) (by omega))
                    have hk0 : (k == 0) = false := by simp; omega
                    go_wp2_with fail
                    go_loopw [23, 146] (fun v i w5 => ∃ m : Nat, m ≤ k ∧ i = .int .i64 m ∧ ∃ A c, v = .slice A (plL k C h m).length c ∧ Hid (LL v1 w5 A c (plL k C h m))) (fun _ i _ => k - (RowKit.intOf i).toNat)
                    case atStart => exact ⟨0, Nat.zero_le _, rfl, none, 0, rfl, Keep.refl _ _, Own.nil _ _ _ _⟩
                    case round =>
                      obtain ⟨m, hm, rfl, A, c, rfl, HA⟩ := hrel
                      clear hd1
                      have hlm := pl_le k C h m
                      by_cases hmk : m < k
                      · obtain ⟨b', o', e', _, hc⟩ := ints_at (HL.out.ds.same HA.out.1) (disL_at (n := k) (c := C) hmk)
                        cases e'
                        have HPS := hid (pl_snoc k C h m)
                        have HO := hid (HA.out.2.keepB ((Keep.refl (fun _ => False) wr).alloc (.cells #[.int .i64 m] 3)) (fun _ _ f => f))
                        have HKA := hid ((HA.out.1).alloc (.cells #[.int .i64 m] 3))
                        have HSR := hid (src_new (w := wr) (cs := #[.int .i64 m]) (t := 3) (news := icellsC [(m : Int)]) rfl)
                        generalize disN k C m = d at *
                        generalize plL k C h m = l at *
                        by_cases hdh : d = h
                        · have HE := hid (show plL k C h (m + 1) = l ++ [(m : Int)] by rw [HPS.out, if_pos hdh])
                          clear HPS
                          subst hdh
                          go_wp2_with (refine EInt.law2 (.tmp 154) (.tmp 156) (.slice A l.length c) (some ⟨wr.heap.size, 0, none⟩) 1 1 rfl rfl rfl rfl v1.heap.size l.length (icellsC l) (icellsC [(m : Int)]) (l.length + 1) _ rfl (icC_app l [(m : Int)]).symm HO.out rfl (fun _ => ⟨_, rfl, HSR.out⟩) (by intro u hu; simp [icellsC] at hu; subst hu; rfl) (by omega) (by unfold maxLen; omega) (HKA.out.size) ?_; intro A7 c7 w7 ho7 hg7 hw7; have HO8 := hid ho7; have HG8 := hid hg7; clear ho7 hg7 hw7)
                          go_round
                          case rel =>
                            refine ⟨m + 1, by omega, by go_num, A7, c7, by rw [HE.out]; simp, ?_⟩
                            rw [HE.out]
                            refine hid ⟨HKA.out.grown HG8.out (fun x e hx => by have := HO.out.block x e; omega), ?_⟩
                            have := HO8.out
                            simpa using this
                          case measure => simp [RowKit.intOf]; omega
                        · have HE := hid (show plL k C h (m + 1) = l by rw [HPS.out, if_neg hdh, List.append_nil])
                          clear HPS
                          have hq : ((d : Int) == (h : Int)) = false := by simp; omega
                          go_wp2_with fail
                          go_round
                          case rel => exact ⟨m + 1, by omega, by go_num, A, c, by rw [HE.out], by rw [HE.out]; exact HA⟩
                          case measure => simp [RowKit.intOf]; omega
                      · obtain rfl : m = k := by omega
                        have hgb2 := HL.out.tm.rng.blk.lt
                        have hgg2 := HL.out.tm.cfg.lt
                        have HLw := hid (HL.out.same HA.out.1)
                        have HUL := hid HL.out.own.lt
                        have HN2 := hid (HL.out.tm.top)
                        obtain ⟨ga, cur, rfl, hga, _⟩ := HA.out.2.open_ (by omega)
                        have HOl := hid HA.out.2
                        clear HA HL
                        generalize plL m C h m = L at *
                        obtain ⟨x0, x1⟩ := roll_in L.length s1 (by omega)
                        obtain ⟨xi, hxi⟩ : ∃ n : Nat, roll L.length s1 = n := ⟨_, (Int.toNat_of_nonneg x0).symm⟩
                        rw [hxi] at x1
                        obtain ⟨nd, hnd⟩ := get_some (l := L) (k := xi) (by omega)
                        have HNC := hid (show (icellsC L)[xi]? = some (.int .i64 nd) by simp [icellsC, hnd])
                        have hcell : wr.cell? ⟨ga, xi, none⟩ = some (.int .i64 nd) := HOl.out.cell HNC.out
                        have HE := hid (show unitS m C (edgS m s).1 (j + 1) = (aft L.length s1, p.2 ++ [⟨1 + pk, h, nd⟩]) by rw [HST.out, hxi]; simp [hnd])
                        have HXI := hid hxi
                        have hpl : p.2.length ≤ 256 := by have := HLN.out; omega
                        clear HST hxi hnd x0 HLN
                        go_upto_region 36 with fail
                        refine wp_region_held_drew (S := fun W => W.cell? ⟨ga, xi, none⟩ = some (.int .i64 nd)) (by kernel_rfl) hcell (fun hHeld => ?_)
                        refine takeO (i := 0) (v := ?_) (by kernel_rfl) (by kernel_rfl) (by kernel_rfl) (fun c a d v w h => by cases d <;> exact h) (oi := ?_) ?_ ?_ (by assumption) ?_
                        rotate_left 2
                        · (simp only [List.getElem?_toArray, List.getElem?_cons_zero]; rfl)
                        · (refine Or.inl ⟨by rfl, ?_⟩; intro w hSw; (try dsimp only at hSw); go_simp; try with_reducible rfl)
                        try simp only [Act.put, List.setIfInBounds_toArray, List.set_cons_zero, List.set_cons_succ]
                        refine takeO (i := 2) (v := ?_) (by kernel_rfl) (by kernel_rfl) (by kernel_rfl) (fun c a d v w h => by cases d <;> exact h) (oi := ?_) ?_ ?_ (by assumption) ?_
                        rotate_left 2
                        · (simp only [List.getElem?_toArray, List.getElem?_cons_succ, List.getElem?_cons_zero]; rfl)
                        · (refine Or.inl ⟨by rfl, ?_⟩; intro w hSw; (try dsimp only at hSw); go_simp; try with_reducible rfl)
                        try simp only [Act.put, List.setIfInBounds_toArray, List.set_cons_zero, List.set_cons_succ]
                        refine takeO (i := 3) (v := ?_) (by kernel_rfl) (by kernel_rfl) (by kernel_rfl) (fun c a d v w h => by cases d <;> exact h) (oi := ?_) ?_ ?_ (by assumption) ?_
                        rotate_left 2
                        · (simp only [List.getElem?_toArray, List.getElem?_cons_succ, List.getElem?_cons_zero]; rfl)
                        · (refine Or.inl ⟨by rfl, ?_⟩; intro w hSw; (try dsimp only at hSw); go_simp; try with_reducible rfl)
                        try simp only [Act.put, List.setIfInBounds_toArray, List.set_cons_zero, List.set_cons_succ]
                        refine takeO (i := 4) (v := ?_) (by kernel_rfl) (by kernel_rfl) (by kernel_rfl) (fun c a d v w h => by cases d <;> exact h) (oi := ?_) ?_ ?_ (by assumption) ?_
                        rotate_left 2
                        · (simp only [List.getElem?_toArray, List.getElem?_cons_succ, List.getElem?_cons_zero]; rfl)
                        · (refine Or.inl ⟨by rfl, ?_⟩; intro w hSw; (try dsimp only at hSw); go_simp; try with_reducible rfl)
                        try simp only [Act.put, List.setIfInBounds_toArray, List.set_cons_zero, List.set_cons_succ]
                        refine takeO (i := 5) (v := ?_) (by kernel_rfl) (by kernel_rfl) (by kernel_rfl) (fun c a d v w h => by cases d <;> exact h) (oi := ?_) ?_ ?_ (by assumption) ?_
                        rotate_left 2
                        · (simp only [List.getElem?_toArray, List.getElem?_cons_succ, List.getElem?_cons_zero]; rfl)
                        · (refine Or.inl ⟨by rfl, ?_⟩; intro w hSw; (try dsimp only at hSw); go_simp; try with_reducible rfl)
                        try simp only [Act.put, List.setIfInBounds_toArray, List.set_cons_zero, List.set_cons_succ]
                        refine takeO (i := 6) (v := ?_) (by kernel_rfl) (by kernel_rfl) (by kernel_rfl) (fun c a d v w h => by cases d <;> exact h) (oi := ?_) ?_ ?_ (by assumption) ?_
                        rotate_left 2
                        · (simp only [List.getElem?_toArray, List.getElem?_cons_succ, List.getElem?_cons_zero]; rfl)
                        · (refine Or.inl ⟨by rfl, ?_⟩; intro w hSw; (try dsimp only at hSw); go_simp; try with_reducible rfl)
                        try simp only [Act.put, List.setIfInBounds_toArray, List.set_cons_zero, List.set_cons_succ]
                        refine takeO (i := 7) (v := ?_) (by kernel_rfl) (by kernel_rfl) (by kernel_rfl) (fun c a d v w h => by cases d <;> exact h) (oi := ?_) ?_ ?_ (by assumption) ?_
                        rotate_left 2
                        · (simp only [List.getElem?_toArray, List.getElem?_cons_succ, List.getElem?_cons_zero]; rfl)
                        · (refine Or.inl ⟨by rfl, ?_⟩; intro w hSw; (try dsimp only at hSw); go_simp; try with_reducible rfl)
                        try simp only [Act.put, List.setIfInBounds_toArray, List.set_cons_zero, List.set_cons_succ]
                        have HLd := hid (HLw.out.same (Keep.refl (fun _ => False) _).drew)
                        have HOd := hid (HOl.out.keepB (Keep.refl (fun _ => False) _).drew (fun _ _ f => f))
                        have hcd : wr.drew.cell? ⟨ga, xi, none⟩ = some (.int .i64 nd) := hcell
                        generalize wr.drew = wd at *
                        apply one_restA (F := fun _ _ _ W => L4 w W r b g base n1 n2 (some ⟨bd, od, none⟩) cD E cE m C (edgS m s).2 (unitS m C (edgS m s).1 (j + 1)))
                        case main =>
                          intro REST
                          refine wpAnyH_ready (rs := [1, 8]) (by kernel_rfl) (by simp) ?_
                          refine AllReadyH.cons rfl (fun K hK => ?_) (AllReadyH.cons rfl (fun K hK => ?_) AllReadyH.nil)
                          · have e1 := HLd.out.hd
                            go_simp
                            clear e1
                            refine hK.out _ _ hcd (fun hHeld1 => ?_)
                            clear hK K
                            try simp only [Act.put, List.setIfInBounds_toArray, List.set_cons_zero, List.set_cons_succ]
                            refine wpAnyH_ready (rs := [8]) (by kernel_rfl) (by simp) ?_
                            refine AllReadyH.cons rfl (fun K hK => ?_) AllReadyH.nil
                            · go_simp
                              (with_reducible refine (roll_any wd b _ _ HLd.out.tm.rng (by omega)).mono ?_)
                              rintro e q2 ⟨rfl, hg, hk⟩
                              have HL2 := hid (show L4u _ w q2 r b g base n1 n2 (some ⟨bd, od, none⟩) cD E cE m C (edgS m s).2 U0 cU (aft L.length s1, p.2) from HLd.out.drawn hg hk)
                              have HO2 := hid (HOd.out.keepB hk (fun x hx e => by simp [Value.ownBlock] at hx; omega))
                              have hc2 : q2.cell? ⟨ga, xi, none⟩ = some (.int .i64 nd) := HO2.out.cell HNC.out
                              clear hg hk
                              rw [HXI.out]
                              refine hK.out _ _ hc2 (fun hHeld2 => ?_)
                              clear hK K
                              try simp only [Act.put, List.setIfInBounds_toArray, List.set_cons_zero, List.set_cons_succ]
                              refine takeO (i := 9) (v := ?_) (by kernel_rfl) (by kernel_rfl) (by kernel_rfl) (fun c a d v w h => by cases d <;> exact h) (oi := ?_) ?_ ?_ (by assumption) ?_
                              rotate_left 2
                              · (simp only [List.getElem?_toArray, List.getElem?_cons_succ, List.getElem?_cons_zero]; rfl)
                              · (refine Or.inl ⟨by rfl, ?_⟩; intro w hSw; (try dsimp only at hSw); go_simp; try with_reducible rfl)
                              try simp only [Act.put, List.setIfInBounds_toArray, List.set_cons_zero, List.set_cons_succ]
                              refine takeO (i := 10) (v := ?_) (by kernel_rfl) (by kernel_rfl) (by kernel_rfl) (fun c a d v w h => by cases d <;> exact h) (oi := ?_) ?_ ?_ (by assumption) ?_
                              rotate_left 2
                              · (simp only [List.getElem?_toArray, List.getElem?_cons_succ, List.getElem?_cons_zero]; rfl)
                              · (refine Or.inl ⟨by rfl, ?_⟩; intro w hSw; (try dsimp only at hSw); go_simp; try with_reducible rfl)
                              try simp only [Act.put, List.setIfInBounds_toArray, List.set_cons_zero, List.set_cons_succ]
                              refine takeO (i := 11) (v := ?_) (by kernel_rfl) (by kernel_rfl) (by kernel_rfl) (fun c a d v w h => by cases d <;> exact h) (oi := ?_) ?_ ?_ (by assumption) ?_
                              rotate_left 2
                              · (simp only [List.getElem?_toArray, List.getElem?_cons_succ, List.getElem?_cons_zero]; rfl)
                              · (refine Or.inl ⟨by rfl, ?_⟩; intro w hSw; (try dsimp only at hSw); go_simp; try with_reducible rfl)
                              try simp only [Act.put, List.setIfInBounds_toArray, List.set_cons_zero, List.set_cons_succ]
                              refine wpAnyH_ready (rs := [12]) (by kernel_rfl) (by simp) ?_
                              refine AllReadyH.cons rfl (fun K hK => ?_) AllReadyH.nil
                              · go_simp
                                have hb3 := Blk.made q2 55 #[.int .i64 (1 + pk), .int .i64 h, .int .i64 nd]
                                have hk3 : Same q2 (q2.alloc (.cells #[.int .i64 (1 + pk), .int .i64 h, .int .i64 nd] 55)) := (Keep.refl _ _).alloc _
                                have HL3 := hid (HL2.out.same hk3)
                                have HO3 := hid (HO2.out.keepB hk3 (fun _ _ f => f))
                                have hc3 : (q2.alloc (.cells #[.int .i64 (1 + pk), .int .i64 h, .int .i64 nd] 55)).cell? ⟨ga, xi, none⟩ = some (.int .i64 nd) := HO3.out.cell HNC.out
                                obtain ⟨g3, hg3⟩ : ∃ g, g = q2.heap.size := ⟨_, rfl⟩
                                rw [← hg3] at hb3 ⊢
                                clear hg3 hk3
                                generalize (q2.alloc (.cells #[.int .i64 (1 + pk), .int .i64 h, .int .i64 nd] 55)) = q3 at *
                                refine hK.out _ _ hc3 (fun hHeld3 => ?_)
                                clear hK K
                                try simp only [Act.put, List.setIfInBounds_toArray, List.set_cons_zero, List.set_cons_succ]
                                refine wpAnyH_ready (rs := [13]) (by kernel_rfl) (by simp) ?_
                                refine AllReadyH.cons rfl (fun K hK => ?_) AllReadyH.nil
                                · refine EUn.step2 rfl (.tmp 160) (.tmp 171) rfl (.slice U0 p.2.length cU) (some ⟨g3, 0, none⟩) 1 1 rfl rfl n2 p.2.length (e3cells p.2) [.int .i64 (1 + pk), .int .i64 h, .int .i64 nd] (p.2.length + 1) (e3cells (p.2 ++ [⟨1 + pk, h, nd⟩])) rfl (by simp [e3cells, E3.cells]) HL3.out.own rfl (fun _ => ⟨_, rfl, src_blk hb3⟩) (fun u hu => e3_one [⟨1 + pk, h, nd⟩] u (by simpa [e3cells, E3.cells] using hu)) (by omega) (by unfold maxLen; omega) HL3.out.tm.top ?_
                                  intro A7 c7 w7 ho7 hg7 hw7
                                  have HO7 := hid (HO3.out.keepB ((Keep.refl (fun i => (Value.slice U0 p.2.length cU).ownBlock = some i) _).grown hg7 (fun x e _ => e)) (fun x hx e => by have := HUL.out x e; simp [Value.ownBlock] at hx; omega))
                                  have hc7 : w7.cell? ⟨ga, xi, none⟩ = some (.int .i64 nd) := HO7.out.cell HNC.out
                                  have ht7 := hid (HL3.out.tm.far ((Keep.refl (fun i => n2 ≤ i) _).grown hg7 (fun x e _ => HL3.out.own.block x e)) (fun i e => e))
                                  have HST7 := hid (HL3.out.step hg7 ho7 (by simp))
                                  clear ho7 hg7 hw7
                                  refine hK.out _ _ hc7 (fun hHeld4 => ?_)
                                  clear hK K
                                  try simp only [Act.put, List.setIfInBounds_toArray]
                                  refine takeO (i := 14) (v := ?_) (by kernel_rfl) (by kernel_rfl) (by kernel_rfl) (fun c a d v w h => by cases d <;> exact h) (oi := ?_) ?_ ?_ (by assumption) ?_
                                  rotate_left 2
                                  · (simp only [List.getElem?_toArray, List.getElem?_cons_succ, List.getElem?_cons_zero]; rfl)
                                  · (refine Or.inl ⟨by rfl, ?_⟩; intro w hSw; (try dsimp only at hSw); go_simp; try with_reducible rfl)
                                  try simp only [Act.put]
                                  refine wpAnyH_ready (rs := [15]) (by kernel_rfl) (by simp) ?_
                                  refine AllReadyH.cons rfl (fun K hK => ?_) AllReadyH.nil
                                  have x2 : w7.cell? ⟨g, 3, none⟩ = some (.slice U0 p.2.length cU) := ht7.out.cfg.at_ 3
                                  have x3 := ht7.out.cfg.free 3
                                  go_simp
                                  refine hK.out _ _ ((HO7.out.keepB ((Keep.refl (· = g) w7).put 3 _) (fun x hx e => by simp [Value.ownBlock] at hx; omega)).cell HNC.out) (fun hHeldZ => ?_)
                                  clear hK K
                                  try simp only [Act.put, List.setIfInBounds_toArray, List.set_cons_zero, List.set_cons_succ]
                                  refine wpAnyH_done (by kernel_rfl) ?_ _
                                  exact REST A7 c7 g3 _ (by rw [HE.out]; exact ⟨A7, c7, HST7.out⟩)
                          · go_simp
                            (with_reducible refine (roll_any wd b _ _ HLd.out.tm.rng (by omega)).mono ?_)
                            rintro e q5 ⟨rfl, hg, hk⟩
                            have HL5 := hid (show L4u _ w q5 r b g base n1 n2 (some ⟨bd, od, none⟩) cD E cE m C (edgS m s).2 U0 cU (aft L.length s1, p.2) from HLd.out.drawn hg hk)
                            have HO5 := hid (HOd.out.keepB hk (fun x hx e => by simp [Value.ownBlock] at hx; omega))
                            have hc5 : q5.cell? ⟨ga, xi, none⟩ = some (.int .i64 nd) := HO5.out.cell HNC.out
                            clear hg hk
                            rw [HXI.out]
                            refine hK.out _ _ hc5 (fun hHeld5 => ?_)
                            clear hK K
                            try simp only [Act.put, List.setIfInBounds_toArray, List.set_cons_zero, List.set_cons_succ]
                            refine takeO (i := 9) (v := ?_) (by kernel_rfl) (by kernel_rfl) (by kernel_rfl) (fun c a d v w h => by cases d <;> exact h) (oi := ?_) ?_ ?_ (by assumption) ?_
                            rotate_left 2
                            · (simp only [List.getElem?_toArray, List.getElem?_cons_succ, List.getElem?_cons_zero]; rfl)
                            · (refine Or.inl ⟨by rfl, ?_⟩; intro w hSw; (try dsimp only at hSw); go_simp; try with_reducible rfl)
                            try simp only [Act.put, List.setIfInBounds_toArray, List.set_cons_zero, List.set_cons_succ]
                            refine takeO (i := 10) (v := ?_) (by kernel_rfl) (by kernel_rfl) (by kernel_rfl) (fun c a d v w h => by cases d <;> exact h) (oi := ?_) ?_ ?_ (by assumption) ?_
                            rotate_left 2
                            · (simp only [List.getElem?_toArray, List.getElem?_cons_succ, List.getElem?_cons_zero]; rfl)
                            · (refine Or.inl ⟨by rfl, ?_⟩; intro w hSw; (try dsimp only at hSw); go_simp; try with_reducible rfl)
                            try simp only [Act.put, List.setIfInBounds_toArray, List.set_cons_zero, List.set_cons_succ]
                            refine takeO (i := 11) (v := ?_) (by kernel_rfl) (by kernel_rfl) (by kernel_rfl) (fun c a d v w h => by cases d <;> exact h) (oi := ?_) ?_ ?_ (by assumption) ?_
                            rotate_left 2
                            · (simp only [List.getElem?_toArray, List.getElem?_cons_succ, List.getElem?_cons_zero]; rfl)
                            · (refine Or.inl ⟨by rfl, ?_⟩; intro w hSw; (try dsimp only at hSw); go_simp; try with_reducible rfl)
                            try simp only [Act.put, List.setIfInBounds_toArray, List.set_cons_zero, List.set_cons_succ]
                            refine wpAnyH_ready (rs := [1, 12]) (by kernel_rfl) (by simp) ?_
                            refine AllReadyH.cons rfl (fun K hK => ?_) (AllReadyH.cons rfl (fun K hK => ?_) AllReadyH.nil)
                            · have e6 := HL5.out.hd
                              go_simp
                              clear e6
                              refine hK.out _ _ hc5 (fun hHeld6 => ?_)
                              clear hK K
                              try simp only [Act.put, List.setIfInBounds_toArray, List.set_cons_zero, List.set_cons_succ]
                              refine wpAnyH_ready (rs := [12]) (by kernel_rfl) (by simp) ?_
                              refine AllReadyH.cons rfl (fun K hK => ?_) AllReadyH.nil
                              · go_simp
                                have hb7 := Blk.made q5 55 #[.int .i64 (1 + pk), .int .i64 h, .int .i64 nd]
                                have hk7 : Same q5 (q5.alloc (.cells #[.int .i64 (1 + pk), .int .i64 h, .int .i64 nd] 55)) := (Keep.refl _ _).alloc _
                                have HL7 := hid (HL5.out.same hk7)
                                have HO7 := hid (HO5.out.keepB hk7 (fun _ _ f => f))
                                have hc7 : (q5.alloc (.cells #[.int .i64 (1 + pk), .int .i64 h, .int .i64 nd] 55)).cell? ⟨ga, xi, none⟩ = some (.int .i64 nd) := HO7.out.cell HNC.out
                                obtain ⟨g7, hg7⟩ : ∃ g, g = q5.heap.size := ⟨_, rfl⟩
                                rw [← hg7] at hb7 ⊢
                                clear hg7 hk7
                                generalize (q5.alloc (.cells #[.int .i64 (1 + pk), .int .i64 h, .int .i64 nd] 55)) = q7 at *
                                refine hK.out _ _ hc7 (fun hHeld7 => ?_)
                                clear hK K
                                try simp only [Act.put, List.setIfInBounds_toArray, List.set_cons_zero, List.set_cons_succ]
                                refine wpAnyH_ready (rs := [13]) (by kernel_rfl) (by simp) ?_
                                refine AllReadyH.cons rfl (fun K hK => ?_) AllReadyH.nil
                                · refine EUn.step2 rfl (.tmp 160) (.tmp 171) rfl (.slice U0 p.2.length cU) (some ⟨g7, 0, none⟩) 1 1 rfl rfl n2 p.2.length (e3cells p.2) [.int .i64 (1 + pk), .int .i64 h, .int .i64 nd] (p.2.length + 1) (e3cells (p.2 ++ [⟨1 + pk, h, nd⟩])) rfl (by simp [e3cells, E3.cells]) HL7.out.own rfl (fun _ => ⟨_, rfl, src_blk hb7⟩) (fun u hu => e3_one [⟨1 + pk, h, nd⟩] u (by simpa [e3cells, E3.cells] using hu)) (by omega) (by unfold maxLen; omega) HL7.out.tm.top ?_
                                  intro A7 c7 w7 ho7 hg7 hw7
                                  have HO7 := hid (HO7.out.keepB ((Keep.refl (fun i => (Value.slice U0 p.2.length cU).ownBlock = some i) _).grown hg7 (fun x e _ => e)) (fun x hx e => by have := HUL.out x e; simp [Value.ownBlock] at hx; omega))
                                  have hc7 : w7.cell? ⟨ga, xi, none⟩ = some (.int .i64 nd) := HO7.out.cell HNC.out
                                  have ht7 := hid (HL7.out.tm.far ((Keep.refl (fun i => n2 ≤ i) _).grown hg7 (fun x e _ => HL7.out.own.block x e)) (fun i e => e))
                                  have HST7 := hid (HL7.out.step hg7 ho7 (by simp))
                                  clear ho7 hg7 hw7
                                  refine hK.out _ _ hc7 (fun hHeld8 => ?_)
                                  clear hK K
                                  try simp only [Act.put, List.setIfInBounds_toArray]
                                  refine takeO (i := 14) (v := ?_) (by kernel_rfl) (by kernel_rfl) (by kernel_rfl) (fun c a d v w h => by cases d <;> exact h) (oi := ?_) ?_ ?_ (by assumption) ?_
                                  rotate_left 2
                                  · (simp only [List.getElem?_toArray, List.getElem?_cons_succ, List.getElem?_cons_zero]; rfl)
                                  · (refine Or.inl ⟨by rfl, ?_⟩; intro w hSw; (try dsimp only at hSw); go_simp; try with_reducible rfl)
                                  try simp only [Act.put]
                                  refine wpAnyH_ready (rs := [15]) (by kernel_rfl) (by simp) ?_
                                  refine AllReadyH.cons rfl (fun K hK => ?_) AllReadyH.nil
                                  have x2 : w7.cell? ⟨g, 3, none⟩ = some (.slice U0 p.2.length cU) := ht7.out.cfg.at_ 3
                                  have x3 := ht7.out.cfg.free 3
                                  go_simp
                                  refine hK.out _ _ ((HO7.out.keepB ((Keep.refl (· = g) w7).put 3 _) (fun x hx e => by simp [Value.ownBlock] at hx; omega)).cell HNC.out) (fun hHeldZ => ?_)
                                  clear hK K
                                  try simp only [Act.put, List.setIfInBounds_toArray, List.set_cons_zero, List.set_cons_succ]
                                  refine wpAnyH_done (by kernel_rfl) ?_ _
                                  exact REST A7 c7 g7 _ (by rw [HE.out]; exact ⟨A7, c7, HST7.out⟩)
                            · go_simp
                              have hb9 := Blk.made q5 55 #[.int .i64 (1 + pk), .int .i64 h, .int .i64 nd]
                              have hk9 : Same q5 (q5.alloc (.cells #[.int .i64 (1 + pk), .int .i64 h, .int .i64 nd] 55)) := (Keep.refl _ _).alloc _
                              have HL9 := hid (HL5.out.same hk9)
                              have HO9 := hid (HO5.out.keepB hk9 (fun _ _ f => f))
                              have hc9 : (q5.alloc (.cells #[.int .i64 (1 + pk), .int .i64 h, .int .i64 nd] 55)).cell? ⟨ga, xi, none⟩ = some (.int .i64 nd) := HO9.out.cell HNC.out
                              obtain ⟨g9, hg9⟩ : ∃ g, g = q5.heap.size := ⟨_, rfl⟩
                              rw [← hg9] at hb9 ⊢
                              clear hg9 hk9
                              generalize (q5.alloc (.cells #[.int .i64 (1 + pk), .int .i64 h, .int .i64 nd] 55)) = q9 at *
                              refine hK.out _ _ hc9 (fun hHeld9 => ?_)
                              clear hK K
                              try simp only [Act.put, List.setIfInBounds_toArray, List.set_cons_zero, List.set_cons_succ]
                              refine wpAnyH_ready (rs := [1]) (by kernel_rfl) (by simp) ?_
                              refine AllReadyH.cons rfl (fun K hK => ?_) AllReadyH.nil
                              · have e10 := HL9.out.hd
                                go_simp
                                clear e10
                                refine hK.out _ _ hc9 (fun hHeld10 => ?_)
                                clear hK K
                                try simp only [Act.put, List.setIfInBounds_toArray, List.set_cons_zero, List.set_cons_succ]
                                refine wpAnyH_ready (rs := [13]) (by kernel_rfl) (by simp) ?_
                                refine AllReadyH.cons rfl (fun K hK => ?_) AllReadyH.nil
                                · refine EUn.step2 rfl (.tmp 160) (.tmp 171) rfl (.slice U0 p.2.length cU) (some ⟨g9, 0, none⟩) 1 1 rfl rfl n2 p.2.length (e3cells p.2) [.int .i64 (1 + pk), .int .i64 h, .int .i64 nd] (p.2.length + 1) (e3cells (p.2 ++ [⟨1 + pk, h, nd⟩])) rfl (by simp [e3cells, E3.cells]) HL9.out.own rfl (fun _ => ⟨_, rfl, src_blk hb9⟩) (fun u hu => e3_one [⟨1 + pk, h, nd⟩] u (by simpa [e3cells, E3.cells] using hu)) (by omega) (by unfold maxLen; omega) HL9.out.tm.top ?_
                                  intro A7 c7 w7 ho7 hg7 hw7
                                  have HO7 := hid (HO9.out.keepB ((Keep.refl (fun i => (Value.slice U0 p.2.length cU).ownBlock = some i) _).grown hg7 (fun x e _ => e)) (fun x hx e => by have := HUL.out x e; simp [Value.ownBlock] at hx; omega))
                                  have hc7 : w7.cell? ⟨ga, xi, none⟩ = some (.int .i64 nd) := HO7.out.cell HNC.out
                                  have ht7 := hid (HL9.out.tm.far ((Keep.refl (fun i => n2 ≤ i) _).grown hg7 (fun x e _ => HL9.out.own.block x e)) (fun i e => e))
                                  have HST7 := hid (HL9.out.step hg7 ho7 (by simp))
                                  clear ho7 hg7 hw7
                                  refine hK.out _ _ hc7 (fun hHeld11 => ?_)
                                  clear hK K
                                  try simp only [Act.put, List.setIfInBounds_toArray]
                                  refine takeO (i := 14) (v := ?_) (by kernel_rfl) (by kernel_rfl) (by kernel_rfl) (fun c a d v w h => by cases d <;> exact h) (oi := ?_) ?_ ?_ (by assumption) ?_
                                  rotate_left 2
                                  · (simp only [List.getElem?_toArray, List.getElem?_cons_succ, List.getElem?_cons_zero]; rfl)
                                  · (refine Or.inl ⟨by rfl, ?_⟩; intro w hSw; (try dsimp only at hSw); go_simp; try with_reducible rfl)
                                  try simp only [Act.put]
                                  refine wpAnyH_ready (rs := [15]) (by kernel_rfl) (by simp) ?_
                                  refine AllReadyH.cons rfl (fun K hK => ?_) AllReadyH.nil
                                  have x2 : w7.cell? ⟨g, 3, none⟩ = some (.slice U0 p.2.length cU) := ht7.out.cfg.at_ 3
                                  have x3 := ht7.out.cfg.free 3
                                  go_simp
                                  refine hK.out _ _ ((HO7.out.keepB ((Keep.refl (· = g) w7).put 3 _) (fun x hx e => by simp [Value.ownBlock] at hx; omega)).cell HNC.out) (fun hHeldZ => ?_)
                                  clear hK K
                                  try simp only [Act.put, List.setIfInBounds_toArray, List.set_cons_zero, List.set_cons_succ]
                                  refine wpAnyH_done (by kernel_rfl) ?_ _
                                  exact REST A7 c7 g9 _ (by rw [HE.out]; exact ⟨A7, c7, HST7.out⟩)
                        case rest =>
                          intro A7 c7 g7 W7 hF
                          have HF := hid hF
                          clear hF HLw HOl hcell HE HXI HNC HLd HOd hcd HUL
                          go_wp2_with fail
                          go_round
                          case rel => exact ⟨j + 1, by omega, by go_num, HF⟩
                          case measure => simp [RowKit.intOf]; omega
                  · obtain rfl : j = U := by omega
                    obtain ⟨U0, cU, HLu⟩ := HL.out
                    have hul : (unitS k C (edgS k s).1 j).2.length = j := (unitS_ok h1 h3 (edgS k s).1 j).2
                    have hel := (edg_ok hN s).2
                    have hD := HLu.done (by rw [disL_len]; unfold maxLen; omega) (by unfold maxLen; omega) (by unfold maxLen; omega) hrb (cfZ C k D cD E cE (edgS k s).2 U0 cU (unitS k C (edgS k s).1 j).2 wr.heap.size).cells.toArray
                    have HT9 := hid hD.1
                    have HC9 := hid hD.2
                    have hgl := HLu.tm.cfg.lt
                    have k3 : Same wr (((wr.alloc (.cells #[.int .i64 2, .int .i64 1] 3)).alloc (.cells #[.int .i64 1, .int .i64 3] 3)).alloc (.cells #[.string ⟨#[104, 101, 97, 114, 116]⟩, .int .i64 1, .slice (some ⟨wr.heap.size, 0, none⟩) 2 2, .string ⟨#[102, 105, 114, 101]⟩, .int .i64 2, .slice (some ⟨wr.heap.size + 1, 0, none⟩) 2 2] 57)) := (((Keep.refl _ wr).alloc _).alloc _).alloc _
                    have c4 : (((wr.alloc (.cells #[.int .i64 2, .int .i64 1] 3)).alloc (.cells #[.int .i64 1, .int .i64 3] 3)).alloc (.cells #[.string ⟨#[104, 101, 97, 114, 116]⟩, .int .i64 1, .slice (some ⟨wr.heap.size, 0, none⟩) 2 2, .string ⟨#[102, 105, 114, 101]⟩, .int .i64 2, .slice (some ⟨wr.heap.size + 1, 0, none⟩) 2 2] 57)).cell? ⟨g, 4, none⟩ = some (.slice none 0 0) := (k3.cell hgl (fun f => f)).trans (HLu.tm.cfg.at_ 4)
                    have f4 : (((wr.alloc (.cells #[.int .i64 2, .int .i64 1] 3)).alloc (.cells #[.int .i64 1, .int .i64 3] 3)).alloc (.cells #[.string ⟨#[104, 101, 97, 114, 116]⟩, .int .i64 1, .slice (some ⟨wr.heap.size, 0, none⟩) 2 2, .string ⟨#[102, 105, 114, 101]⟩, .int .i64 2, .slice (some ⟨wr.heap.size + 1, 0, none⟩) 2 2] 57)).frozen? ⟨g, 4, none⟩ = false := (k3.frozen hgl (fun f => f)).trans (HLu.tm.cfg.free 4)
                    clear HLu HL hD k3 hul hel
                    go_upto_region 38 with fail
                    clear c4 f4 hgl
                    generalize (((wr.alloc (.cells #[.int .i64 2, .int .i64 1] 3)).alloc (.cells #[.int .i64 1, .int .i64 3] 3)).alloc (.cells #[.string ⟨#[104, 101, 97, 114, 116]⟩, .int .i64 1, .slice (some ⟨wr.heap.size, 0, none⟩) 2 2, .string ⟨#[102, 105, 114, 101]⟩, .int .i64 2, .slice (some ⟨wr.heap.size + 1, 0, none⟩) 2 2] 57)).setCell ⟨g, 4, none⟩ (.slice (some ⟨wr.heap.size + 1 + 1, 0, none⟩) 2 2) = w9 at *
                    have HRR := hid (show TownIs (cfZ C k D cD E cE (edgS k s).2 U0 cU (unitS k C (edgS k s).1 j).2 wr.heap.size) k C j s from ⟨rfl, rfl, rfl, rfl, ⟨_, _, rfl⟩, rfl, rfl, rfl, rfl, rfl, rfl, rfl, rfl, rfl, rfl⟩)
                    generalize cfZ C k D cD E cE (edgS k s).2 U0 cU (unitS k C (edgS k s).1 j).2 wr.heap.size = cf at *
                    have HBC := hid HT9.out.cfg
                    have HBR := hid HT9.out.res
                    have HKP := hid HT9.out.keep
                    have hrw := HT9.out.r0
                    clear HT9
                    go_wp2_with (first
                      | (refine wpList_load_row rfl _ (.tmp 11) rfl g rfl _ cf.cells.toArray (0, 0) _ HBC.out Tryd.underlying30 rfl (by kernel_rfl) ?_)
                      | (refine wpList_store_row rfl _ (.tmp 8) (.tmp 180) rfl r cf.cells.toArray rfl rfl _ _ HBR.out (by kernel_rfl) rfl (one_toArray (CF.one cf)) ?_))
                    refine bodyPost_ret (results_cell_tmp rfl _ _ _ _ _ _ _ _ rfl rfl (HBR.out.row _) Tryd.underlying30 rfl (by kernel_rfl)) rfl ?_
                    exact town_ret (by omega) h2 h3 h4 (by omega) HRR.out HC9.out (HKP.out.trans (Keep.row _ _ _) (fun i hi e => by have e2 : i = r := e; omega))
end Go.Proofs.YtnejacmmbfeneaaDoor

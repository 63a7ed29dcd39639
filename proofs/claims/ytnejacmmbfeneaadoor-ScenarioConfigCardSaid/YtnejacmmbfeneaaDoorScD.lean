import Derived.Test.YtnejacmmbfeneaaDoorScC
import Derived.Deep.RegionHeld3
import Derived.Deep.Cut
import Derived.Deep.CutRange
import Derived.RegionTactic
namespace Go.Proofs.YtnejacmmbfeneaaDoor
open Go.RowKit

/-! ## Town -/
def z15A : Array Value := z15.toArray
def okN (n c u : Int) : Prop := (1 ≤ c ∧ c ≤ 9) ∧ (c ≤ n ∧ n ≤ 64) ∧ 0 ≤ u ∧ u ≤ 256
def cfA (cen : Int) : CF := { dflt with cen := cen }
theorem EUn : Elem Tryd.prog 27 55 3 24 (.agg #[.int .i64 0, .int .i64 0, .int .i64 0]) := ⟨Tryd.underlying27, by kernel_rfl, rfl, by decide⟩
/-- The blocks of a run: the result r, the dice b, the configuration g; what the call itself made lies from base on. -/
structure TM (w0 w : World) (t : TypeId) (r b g base : Nat) (s : Int) (c : CF) : Prop where
  r0 : w0.heap.size ≤ r
  b0 : w0.heap.size ≤ b
  g0 : w0.heap.size ≤ g
  rb : r < base
  bb : b < base
  gb : g < base
  nrb : r ≠ b
  nrg : r ≠ g
  nbg : b ≠ g
  top : base ≤ w.heap.size
  res : Blk w r 30 z15.toArray
  cfg : Blk w g 30 c.cells.toArray
  rng : Gn w t b s
  keep : Same w0 w
theorem TM.far {S : Nat → Prop} {w0 w w' : World} {t : TypeId} {r b g base : Nat} {s : Int} {c : CF} (h : TM w0 w t r b g base s c) (hk : Keep S w w') (hS : ∀ i, S i → base ≤ i) : TM w0 w' t r b g base s c :=
  ⟨h.r0, h.b0, h.g0, h.rb, h.bb, h.gb, h.nrb, h.nrg, h.nbg, Nat.le_trans h.top hk.size, h.res.keep hk (fun e => by have := hS _ e; have := h.rb; omega), h.cfg.keep hk (fun e => by have := hS _ e; have := h.gb; omega),
    h.rng.keep hk (fun e => by have := hS _ e; have := h.bb; omega), h.keep.trans hk (fun i hi e => by have := hS _ e; have := h.rb; have := h.r0; omega)⟩
theorem TM.same {w0 w w' : World} {t : TypeId} {r b g base : Nat} {s : Int} {c : CF} (h : TM w0 w t r b g base s c) (hk : Same w w') : TM w0 w' t r b g base s c := h.far hk (fun _ f => f.elim)
theorem TM.draw {w0 w w' : World} {t : TypeId} {r b g base : Nat} {s s' : Int} {c : CF} (h : TM w0 w t r b g base s c) (hg : Gn w' t b s') (hk : Keep (· = b) w w') : TM w0 w' t r b g base s' c :=
  ⟨h.r0, h.b0, h.g0, h.rb, h.bb, h.gb, h.nrb, h.nrg, h.nbg, Nat.le_trans h.top hk.size, h.res.keep hk h.nrb, h.cfg.keep hk (fun e => h.nbg e.symm), hg, h.keep.trans hk (fun i hi e => by have e2 : i = b := e; have := h.b0; omega)⟩
/-- A slice field of the configuration is written. -/
theorem TM.set {w0 w w' : World} {t : TypeId} {r b g base : Nat} {s : Int} {c c' : CF} (h : TM w0 w t r b g base s c) (k : Nat) (v : Value) (hw : w.setCell ⟨g, k, none⟩ v = w') (hc : c'.cells = c.cells.set k v) : TM w0 w' t r b g base s c' := by
  subst hw
  have hk : Keep (· = g) w (w.setCell ⟨g, k, none⟩ v) := (Keep.refl _ w).put k v
  exact ⟨h.r0, h.b0, h.g0, h.rb, h.bb, h.gb, h.nrb, h.nrg, h.nbg, Nat.le_trans h.top hk.size, h.res.keep hk h.nrg, by have := h.cfg.put k v; rw [hc]; simpa using this, h.rng.keep hk h.nbg,
    h.keep.trans hk (fun i hi e => by have e2 : i = g := e; have := h.g0; omega)⟩
theorem TM.rise {w0 w : World} {t : TypeId} {r b g base base' : Nat} {s : Int} {c : CF} (h : TM w0 w t r b g base s c) (h1 : base ≤ base') (h2 : base' ≤ w.heap.size) : TM w0 w t r b g base' s c :=
  ⟨h.r0, h.b0, h.g0, Nat.lt_of_lt_of_le h.rb h1, Nat.lt_of_lt_of_le h.bb h1, Nat.lt_of_lt_of_le h.gb h1, h.nrb, h.nrg, h.nbg, h2, h.res, h.cfg, h.rng, h.keep⟩
/-- Both configurations' posts. -/
def TownPost (w : World) (n c u s : Int) (e : Ending) (w' : World) : Prop :=
  (¬ okN n c u → e = .returned (.tuple #[.agg z15.toArray, .int .i64 1])) ∧
  (okN n c u → ∃ cf : CF, e = .returned (.tuple #[.agg cf.cells.toArray, .int .i64 0]) ∧ CM w' cf ∧ cf.cen = c ∧ cf.dis = disL n.toNat c.toNat ∧ cf.edg = (edgS n.toNat s).2 ∧ cf.uni = town n.toNat c.toNat u.toNat s ∧
    (∃ K1 K2 : Option Addr, cf.pla = [⟨⟨#[104, 101, 97, 114, 116]⟩, 1, K1, 2, [2, 1]⟩, ⟨⟨#[102, 105, 114, 101]⟩, 2, K2, 2, [1, 3]⟩]) ∧
    cf.h0 = 2 ∧ cf.h1 = 10 ∧ cf.h2 = 12 ∧ cf.h3 = 20 ∧ cf.h4 = 30 ∧ cf.h5 = 4 ∧ cf.h6 = 10 ∧ cf.h7 = 50 ∧ cf.h8 = 1 ∧ cf.h9 = 8) ∧ Same w w'
theorem town_plans {K1 K2 : Option Addr} : plansB [⟨⟨#[104, 101, 97, 114, 116]⟩, 1, K1, 2, [2, 1]⟩, ⟨⟨#[102, 105, 114, 101]⟩, 2, K2, 2, [1, 3]⟩] = true := by kernel_rfl
end Go.Proofs.YtnejacmmbfeneaaDoor

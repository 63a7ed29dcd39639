import Derived.Test.YtnejacmmbfeneaaActA
import Derived.Test.YtnejacmmbfeneaaDice
import Derived.Deep.Cut
import Derived.Deep.RegionHeld3
namespace Go.Proofs.Ytnejacmmbfeneaa
open Go.RowKit Go.PlainAid

/-! ## The generator's memory -/
structure RT where
  a0 : Int
  a1 : Int
  a2 : Int
  a3 : Int
  a4 : Int
  a5 : Int
  a6 : Int
def RT.cells (m : RT) : List Value := [.int .i64 m.a0, .int .i64 m.a1, .int .i64 m.a2, .int .i64 m.a3, .int .i64 m.a4, .int .i64 m.a5, .int .i64 m.a6]
/-- an action whose memory avoids the blocks Av -/
structure AcK (w : World) (Av : Nat → Prop) (a : AC) : Prop where
  src : Sl w Av 2 a.S a.src.length (srcells a.src)
  nodes : ∀ s ∈ a.src, Sl w Av 1 s.A s.nodes.length (icellsC s.nodes) ∧ s.nodes.length ≤ 100000
  grp : Sl w Av 1 a.G a.grp.length (icellsC a.grp)
  ls : a.src.length ≤ 100000
  lg : a.grp.length ≤ 100000
theorem AcK.keep {S Av : Nat → Prop} {w w' : World} {a : AC} (h : AcK w Av a) (hk : Keep S w w') (hS : ∀ i, i < w.heap.size → S i → Av i) : AcK w' Av a :=
  ⟨h.src.keep hk hS, fun s hs => ⟨(h.nodes s hs).1.keep hk hS, (h.nodes s hs).2⟩, h.grp.keep hk hS, h.ls, h.lg⟩
theorem AcK.wide {Av Av' : Nat → Prop} {w : World} {a : AC} (h : AcK w Av a) (hS : ∀ i, i < w.heap.size → Av' i → Av i) : AcK w Av' a :=
  ⟨h.src.wide hS, fun s hs => ⟨(h.nodes s hs).1.wide hS, (h.nodes s hs).2⟩, h.grp.wide hS, h.ls, h.lg⟩
theorem AcK.ok {Av : Nat → Prop} {w : World} {a : AC} (h : AcK w Av a) : AcOk w a :=
  ⟨h.src.wide (fun _ _ f => f.elim), fun s hs => ⟨(h.nodes s hs).1.wide (fun _ _ f => f.elim), (h.nodes s hs).2⟩, h.grp.wide (fun _ _ f => f.elim), h.ls, h.lg⟩
theorem AcK.plain (w : World) (Av : Nat → Prop) (k v n c o nd : Int) : AcK w Av ⟨k, v, n, c, o, nd, none, 0, [], none, 0, []⟩ :=
  ⟨Sl.nil _ _ _ _, fun s hs => by simp at hs, Sl.nil _ _ _ _, by simp, by simp⟩
def gcells (r : Nat) (c : CF) (m : RT) (di : Int) (sp : Bool) (dn : List Bool) (A : Option Addr) (n cp : Nat) : List Value :=
  .pointer (some ⟨r, 0, none⟩) :: (c.cells ++ (m.cells ++ (.int .i64 di :: .bool sp :: (dn.map .bool ++ [.slice A n cp]))))
structure GM (w : World) (g r : Nat) (c : CF) (m : RT) (s di : Int) (sp : Bool) (dn : List Bool) (A : Option Addr) (cp : Nat) (la : List AC) : Prop where
  blk : Blk w g 72 (gcells r c m di sp dn A la.length cp).toArray
  rng : Gn w 63 r s
  own : Own w 0 59 8 (.slice A la.length cp) la.length (accells la)
  ok : ∀ a ∈ la, AcK w (fun i => i = g ∨ i = r ∨ A.map (·.block) = some i) a
  gr : g ≠ r
  ag : A.map (·.block) ≠ some g
  ar : A.map (·.block) ≠ some r
  dl : dn.length = 9
theorem ownB {A : Option Addr} {n c : Nat} : (Value.slice A n c).ownBlock = A.map (·.block) := by cases A <;> rfl
section
variable {w w' : World} {g r : Nat} {c : CF} {m : RT} {s di : Int} {sp : Bool} {dn : List Bool} {A : Option Addr} {cp : Nat} {la : List AC}
theorem GM.draw (h : GM w g r c m s di sp dn A cp la) {s' : Int} (hg : Gn w' 63 r s') (hk : Keep (· = r) w w') : GM w' g r c m s' di sp dn A cp la :=
  ⟨h.blk.keep hk h.gr, hg, h.own.keepB hk (fun q hq e => h.ar (by rw [← ownB (n := la.length) (c := cp), hq, e])), fun a ha => (h.ok a ha).keep hk (fun i _ e => .inr (.inl e)), h.gr, h.ag, h.ar, h.dl⟩
theorem GM.same (h : GM w g r c m s di sp dn A cp la) (hk : Same w w') : GM w' g r c m s di sp dn A cp la :=
  ⟨h.blk.keep hk (fun f => f), h.rng.keep hk (fun f => f), h.own.keepB hk (fun _ _ f => f), fun a ha => (h.ok a ha).keep hk (fun _ _ f => f.elim), h.gr, h.ag, h.ar, h.dl⟩
/-- one cell of the generator is written: not the first, not the list's -/
theorem GM.put (h : GM w g r c m s di sp dn A cp la) (i : Nat) (u : Value) {di' : Int} {sp' : Bool} {dn' : List Bool} (hd : dn'.length = 9) (he : (gcells r c m di sp dn A la.length cp).set i u = gcells r c m di' sp' dn' A la.length cp) : GM (w.setCell ⟨g, i, none⟩ u) g r c m s di' sp' dn' A cp la := by
  have hk : Keep (· = g) w (w.setCell ⟨g, i, none⟩ u) := (Keep.refl _ w).put i u
  refine ⟨?_, h.rng.keep hk (fun e => h.gr e.symm), h.own.keepB hk (fun q hq e => h.ag (by rw [← ownB (n := la.length) (c := cp), hq, e])), fun a ha => (h.ok a ha).keep hk (fun i _ e => .inl e), h.gr, h.ag, h.ar, hd⟩
  have := h.blk.put i u
  rwa [List.setIfInBounds_toArray, he] at this
structure GC (w : World) (g r : Nat) (c : CF) (m : RT) (di : Int) (sp : Bool) (A : Option Addr) (cp n : Nat) : Prop where
  rand : w.cell? ⟨g, 0, none⟩ = some (.pointer (some ⟨r, 0, none⟩))
  cen : w.cell? ⟨g, 1, none⟩ = some (.int .i64 c.cen)
  dis : w.cell? ⟨g, 2, none⟩ = some (.slice c.D c.dis.length c.cD)
  edg : w.cell? ⟨g, 3, none⟩ = some (.slice c.E c.edg.length c.cE)
  uni : w.cell? ⟨g, 4, none⟩ = some (.slice c.U c.uni.length c.cU)
  m0 : w.cell? ⟨g, 16, none⟩ = some (.int .i64 m.a0)
  m1 : w.cell? ⟨g, 17, none⟩ = some (.int .i64 m.a1)
  m2 : w.cell? ⟨g, 18, none⟩ = some (.int .i64 m.a2)
  m3 : w.cell? ⟨g, 19, none⟩ = some (.int .i64 m.a3)
  m4 : w.cell? ⟨g, 20, none⟩ = some (.int .i64 m.a4)
  m5 : w.cell? ⟨g, 21, none⟩ = some (.int .i64 m.a5)
  m6 : w.cell? ⟨g, 22, none⟩ = some (.int .i64 m.a6)
  di : w.cell? ⟨g, 23, none⟩ = some (.int .i64 di)
  sp : w.cell? ⟨g, 24, none⟩ = some (.bool sp)
  l : w.cell? ⟨g, 34, none⟩ = some (.slice A n cp)
  fz : ∀ i, w.frozen? ⟨g, i, none⟩ = false
  lt : g < w.heap.size
theorem GM.gc (h : GM w g r c m s di sp dn A cp la) : GC w g r c m di sp A cp la.length := by
  have e := fun i => h.blk.at_ i
  obtain ⟨d0, d1, d2, d3, d4, d5, d6, d7, d8, rfl⟩ : ∃ a b c d e f g h i, dn = [a, b, c, d, e, f, g, h, i] := by
    have := h.dl
    match dn, this with
    | [a, b, c, d, e, f, g, h, i], _ => exact ⟨a, b, c, d, e, f, g, h, i, rfl⟩
  exact ⟨e 0, e 1, e 2, e 3, e 4, e 16, e 17, e 18, e 19, e 20, e 21, e 22, e 23, e 24, e 34, fun i => h.blk.free i, h.blk.lt⟩
end
end Go.Proofs.Ytnejacmmbfeneaa

import Derived.Test.YtnejacmmbfeneaaGenA
import Derived.Deep.RegionLaw
namespace Go.Proofs.Ytnejacmmbfeneaa
open Go.RowKit Go.PlainAid

section
variable {w : World} {g r : Nat} {c : CF} {m : RT} {s di : Int} {sp : Bool} {dn : List Bool} {A : Option Addr} {cp : Nat} {la : List AC}
/-! ## occurs, add -/
theorem src_newB {w : World} {o : Obj} {cs : Array Value} {t : TypeId} {news : List Value} (h : news = cs.toList) : ∀ j u, news[j]? = some u → ((w.alloc o).alloc (.cells cs t)).cell? ((⟨w.heap.size + 1, 0, none⟩ : Addr).add j) = some u := by
  have := src_new (w := w.alloc o) (cs := cs) (t := t) h
  rwa [World.size_alloc] at this
def occ (rate s : Int) : Bool := chc (min (max rate 0) 100) 100 s
def DrawPost (w : World) (r : Nat) (v : Value) (s' : Int) (e : Ending) (w' : World) : Prop := e = .returned v ∧ Gn w' 63 r s' ∧ Keep (· = r) w w'
theorem occurs_any (h : GM w g r c m s di sp dn A cp la) (rate : Int) : Calls Try.prog 62 #[.pointer (some ⟨g, 0, none⟩), .int .i64 rate] w (DrawPost w r (.bool (occ rate s)) (aft 100 s)) := by
  have HC := hid (chance_any w r s (min (max rate 0) 100) 100 h.rng (by omega))
  have h0 := h.gc.rand
  have hl := h.gc.lt
  have HO := hid (show occ rate s = chc (min (max rate 0) 100) 100 s from rfl)
  clear h
  rw [HO.out]
  generalize chc (min (max rate 0) 100) 100 s = b at *
  go_enter Try.func62, Try.ntmps62
  go_wp2_with fail
  (with_reducible refine HC.out.mono ?_)
  rintro e w2 ⟨rfl, hg2, hk2⟩
  have HG := hid hg2
  have HK := hid hk2
  clear hg2 hk2
  go_wp2_with fail
  go_ret
  exact ⟨rfl, HG.out, HK.out⟩
/-- An action is added at the end. -/
def AddPost (w : World) (g r : Nat) (c : CF) (m : RT) (s di : Int) (sp : Bool) (dn : List Bool) (A : Option Addr) (la : List AC) (e : Ending) (w' : World) : Prop :=
  e = .returned (.tuple #[]) ∧ (∃ A' cp', GM w' g r c m s di sp dn A' cp' la ∧ ∀ q, A'.map (·.block) = some q → A.map (·.block) = some q ∨ w.heap.size ≤ q) ∧ Keep (fun i => i = g ∨ A.map (·.block) = some i) w w'
theorem GM.push (h : GM w g r c m s di sp dn A cp la) {w5 w7 : World} (hk5 : Same w w5) (a : AC) (ha : AcK w (fun i => i = g ∨ i = r ∨ A.map (·.block) = some i) a) {A' : Option Addr} {c' : Nat}
    (ho : Own w7 0 59 8 (.slice A' (la.length + 1) c') (la.length + 1) (accells la ++ a.cells)) (hg : w5.grownBy w7 (Value.slice A la.length cp).ownBlock)
    (hwh : A'.map (·.block) = (Value.slice A la.length cp).ownBlock ∨ A'.map (·.block) = some w5.heap.size) :
    (∀ u, u = Value.slice A' (la.length + 1) c' → GM (w7.setCell ⟨g, 34, none⟩ u) g r c m s di sp dn A' c' (la ++ [a]) ∧ Keep (fun i => i = g ∨ A.map (·.block) = some i) w (w7.setCell ⟨g, 34, none⟩ u)) ∧ w7.cell? ⟨g, 34, none⟩ = some (.slice A la.length cp) ∧ w7.frozen? ⟨g, 34, none⟩ = false ∧ g < w7.heap.size ∧ (∀ q, A'.map (·.block) = some q → A.map (·.block) = some q ∨ w.heap.size ≤ q) := by
  rw [ownB] at hg hwh
  have hgl := h.blk.lt
  have hrl := h.rng.blk.lt
  have h5 := hk5.size
  have hal : ∀ q, A.map (·.block) = some q → q < w.heap.size := fun q e => h.own.lt q (by rw [ownB, e])
  have hk7 : Keep (fun i => A.map (·.block) = some i) w w7 := (hk5.wide (fun _ _ f => f.elim)).grown hg (fun q e _ => e)
  have hb7 : Blk w7 g 72 (gcells r c m di sp dn A la.length cp).toArray := h.blk.keep hk7 h.ag
  have hnew : ∀ q, A'.map (·.block) = some q → A.map (·.block) = some q ∨ w.heap.size ≤ q := by
    intro q e
    rcases hwh with h1 | h1
    · left; rw [← h1, e]
    · right; rw [e] at h1; injection h1 with h1; omega
  have hag : A'.map (·.block) ≠ some g := fun e => by
    rcases hnew g e with h1 | h1
    · exact h.ag h1
    · omega
  have har : A'.map (·.block) ≠ some r := fun e => by
    rcases hnew r e with h1 | h1
    · exact h.ar h1
    · omega
  have hcl := h.gc.l
  refine ⟨fun u hu => ?_, ?_, hb7.free 34, hb7.lt, hnew⟩
  · subst hu
    have hk8 : Keep (· = g) w7 (w7.setCell ⟨g, 34, none⟩ (.slice A' (la.length + 1) c')) := (Keep.refl _ w7).put 34 _
    have hk9 : Keep (fun i => i = g ∨ A.map (·.block) = some i) w (w7.setCell ⟨g, 34, none⟩ (.slice A' (la.length + 1) c')) := (hk7.wide (fun _ _ e => .inr e)).trans hk8 (fun _ _ e => .inl e)
    have hll : (la ++ [a]).length = la.length + 1 := by simp
    refine ⟨⟨?_, ?_, ?_, ?_, h.gr, hag, har, h.dl⟩, hk9⟩
    · have := hb7.put 34 (.slice A' (la.length + 1) c')
      rw [List.setIfInBounds_toArray] at this
      rw [hll]
      have e : (gcells r c m di sp dn A la.length cp).set 34 (.slice A' (la.length + 1) c') = gcells r c m di sp dn A' (la.length + 1) c' := by
        obtain ⟨d0, d1, d2, d3, d4, d5, d6, d7, d8, rfl⟩ : ∃ a b c d e f g h i, dn = [a, b, c, d, e, f, g, h, i] := by
          have := h.dl
          match dn, this with
          | [a, b, c, d, e, f, g, h, i], _ => exact ⟨a, b, c, d, e, f, g, h, i, rfl⟩
        rfl
      rwa [e] at this
    · refine (h.rng.keep hk7 h.ar).keep hk8 (fun e => h.gr e.symm)
    · rw [hll, ← accells_snoc]
      exact ho.keepB hk8 (fun q hq e => hag (by rw [ownB] at hq; rw [hq, e]))
    · intro x hx
      have key : ∀ y, AcK w (fun i => i = g ∨ i = r ∨ A.map (·.block) = some i) y → AcK (w7.setCell ⟨g, 34, none⟩ (.slice A' (la.length + 1) c')) (fun i => i = g ∨ i = r ∨ A'.map (·.block) = some i) y := by
        intro y hy
        have h1 : AcK w (fun i => i = g ∨ i = r ∨ A.map (·.block) = some i ∨ A'.map (·.block) = some i) y := hy.wide (fun i hi hs => by
          rcases hs with hs | hs | hs | hs
          · exact .inl hs
          · exact .inr (.inl hs)
          · exact .inr (.inr hs)
          · rcases hnew i hs with h2 | h2
            · exact .inr (.inr h2)
            · omega)
        exact (h1.keep hk9 (fun i _ hs => by rcases hs with hs | hs; (· exact .inl hs); (· exact .inr (.inr (.inl hs))))).wide (fun i _ hs => by
          rcases hs with hs | hs | hs
          · exact .inl hs
          · exact .inr (.inl hs)
          · exact .inr (.inr (.inr hs)))
      rcases List.mem_append.1 hx with hx | hx
      · exact key x (h.ok x hx)
      · simp at hx; subst hx; exact key _ ha
  · exact (hb7.at_ 34).trans ((h.blk.at_ 34).symm.trans hcl)
set_option maxRecDepth 100000 in
set_option maxHeartbeats 4000000 in
theorem add_any (h : GM w g r c m s di sp dn A cp la) (a : AC) (ha : AcK w (fun i => i = g ∨ i = r ∨ A.map (·.block) = some i) a) (hl : la.length ≤ 100000) : Calls Try.prog 47 #[.pointer (some ⟨g, 0, none⟩), .agg a.cells.toArray] w (AddPost w g r c m s di sp dn A (la ++ [a])) := by
  have hcl := h.gc.l
  have hgl := h.gc.lt
  have HH := hid h
  have HA := hid ha
  clear h ha
  obtain ⟨kind, who, nn, call, other, node, S, cS, src, G, cG, grp⟩ := a
  simp only [AC.cells]
  have hOa := hid (((HH.out.same ((Keep.refl (fun _ => False) w).alloc (.cells (AC.mk kind who nn call other node S cS src G cG grp).cells.toArray 59))).own).keep ((Keep.refl (fun _ => False) _).alloc (.cells (AC.mk kind who nn call other node S cS src G cG grp).cells.toArray 59)) (fun _ _ _ f => f))
  have hSa := hid (fun (_ : 0 < 1) => (⟨_, rfl, src_newB (w := w) (o := .cells (AC.mk kind who nn call other node S cS src G cG grp).cells.toArray 59) (t := 59) (cs := (AC.mk kind who nn call other node S cS src G cG grp).cells.toArray) (news := (AC.mk kind who nn call other node S cS src G cG grp).cells) rfl⟩ : ∃ ad, some (⟨w.heap.size + 1, 0, none⟩ : Addr) = some ad ∧ ∀ j u, (AC.mk kind who nn call other node S cS src G cG grp).cells[j]? = some u → ((w.alloc (.cells (AC.mk kind who nn call other node S cS src G cG grp).cells.toArray 59)).alloc (.cells (AC.mk kind who nn call other node S cS src G cG grp).cells.toArray 59)).cell? (ad.add j) = some u))
  simp only [AC.cells] at hOa hSa
  go_enter Try.func47, Try.ntmps47
  go_wp2_with fail
  go_region_law (first
    | (refine EAc.step2 rfl (.tmp 8) (.tmp 10) rfl (.slice A la.length cp) (some ⟨w.heap.size + 1, 0, none⟩) 1 1 rfl rfl 0 la.length (accells la) (AC.mk kind who nn call other node S cS src G cG grp).cells (la.length + 1) _ rfl rfl hOa.out rfl hSa.out (fun u hu => accells_one [AC.mk kind who nn call other node S cS src G cG grp] u (by simpa [accells] using hu)) (by omega) (by unfold maxLen; omega) (Nat.zero_le _) ?_
       intro A7 c7 w7 ho7 hg7 hw7
       have hP := HH.out.push (((Keep.refl (fun _ => False) w).alloc (.cells #[.int .i64 kind, .int .i64 who, .int .i64 nn, .int .i64 call, .int .i64 other, .int .i64 node, .slice S src.length cS, .slice G grp.length cG] 59)).alloc (.cells #[.int .i64 kind, .int .i64 who, .int .i64 nn, .int .i64 call, .int .i64 other, .int .i64 node, .slice S src.length cS, .slice G grp.length cG] 59)).drew _ HA.out ho7 hg7 hw7
       have c7a := hP.2.1
       have f7a := hP.2.2.1
       have l7a := hP.2.2.2.1
       have HPN := hid hP.2.2.2.2
       have HP := hid hP.1
       clear ho7 hg7 hw7 hP))
  all_goals
    go_end0
    exact ⟨rfl, ⟨A7, c7, (HP.out _ rfl).1, HPN.out⟩, (HP.out _ rfl).2⟩
end
end Go.Proofs.Ytnejacmmbfeneaa

import Derived.Test.YtafpcffhkbeloaaDoorLoH
namespace Go.Proofs.YtafpcffhkbeloaaDoor
open Go.RowKit

theorem IsEst.same {w w' : World} {eb : Nat} {r : Option Nat} {base : Nat} {va vn R : Value} {all nodes : List Nat} {l : List Ad} (h : IsEst w eb r base va vn R all nodes l) (hk : Same w w') : IsEst w' eb r base va vn R all nodes l :=
  ⟨h.top.keep hk (fun f => f), h.all_.same hk, h.nodes_.same hk, h.row.keep hk (fun _ _ _ f => f), h.own, fun a ha => ⟨Sl.same (h.each a ha).1 hk, (h.each a ha).2⟩, h.few, h.lo⟩
theorem blk_ne {w : World} {g g' : Nat} {t t' : TypeId} {cs cs' : Array Value} (h : Blk w g t cs) (h' : Blk w g' t' cs') (ht : t ≠ t') : g ≠ g' := by
  rintro rfl
  rw [Blk] at h h'
  rw [h] at h'
  injection h' with h'
  injection h' with _ h'
  exact ht h'
/-- a set stays while a block of another type is written -/
theorem IsSet.far {w w' : World} {v : Value} {ws : List Nat} {g : Nat} {t : TypeId} {cs : Array Value} (h : IsSet w v ws) (hb : Blk w g t cs) (hk : Keep (· = g) w w') (ht : t ≠ 72 := by decide) : IsSet w' v ws :=
  ⟨h.ok, h.mem.imp id (fun ⟨g2, e, b, n⟩ => ⟨g2, e, Blk.keep b hk (fun e2 => blk_ne hb b ht e2.symm), n⟩)⟩
theorem own_row {w : World} {base : Nat} {e : TypeId} {size n : Nat} {v : Value} {xs : List Value} (h : Own w base e size v n xs) {g : Nat} (hg : v.ownBlock = some g) : ∃ cur, Blk w g e cur := by
  rcases h.2 with ⟨rfl, _⟩ | ⟨g', cap, cur, rfl, _, hb, _⟩
  · cases hg
  · have e2 : g' = g := by injection hg
    subst e2
    exact ⟨cur, hb⟩
theorem ownb (A : Option Addr) (n c : Nat) : (Value.slice A n c).ownBlock = A.map (·.block) := by cases A <;> rfl
theorem IsSet.keepBut {w w' : World} {v : Value} {ws : List Nat} {S : Nat → Prop} (h : IsSet w v ws) (hk : Keep S w w') (hS : ∀ g cs, Blk w g 72 cs → ¬ S g) : IsSet w' v ws :=
  ⟨h.ok, h.mem.imp id (fun ⟨g2, e, b, n⟩ => ⟨g2, e, Blk.keep b hk (hS g2 _ b), n⟩)⟩
/-- one source more -/
theorem add_row {W6 Wc W7 : World} {eb : Nat} {r : Option Nat} {base : Nat} {va vn : Value} {A : Option Addr} {c : Nat} {all nodes : List Nat} {l : List Ad} (hE : IsEst W6 eb r base va vn (.slice A l.length c) all nodes l) (hl : l.length < 64) (hk : Same W6 Wc)
    (a : Ad) (hs : SrOk Wc (· < W6.heap.size) a.s) (hn : a.s.ns.length ≤ 4096) {A7 : Option Addr} {c7 : Nat}
    (hown : Own W7 base 77 3 (.slice A7 (l.length + 1) c7) (l.length + 1) (adcells l ++ a.cells)) (hg : Wc.grownBy W7 (Value.slice A l.length c).ownBlock)
    (hwh : A7.map (·.block) = (Value.slice A l.length c).ownBlock ∨ A7.map (·.block) = some Wc.heap.size) :
    IsEst (W7.setCell ⟨eb, 2, none⟩ (.slice A7 (l.length + 1) c7)) eb (A7.map (·.block)) base va vn (.slice A7 (l.length + 1) c7) all nodes (l ++ [a]) ∧
    Keep (fun i => i = eb ∨ some i = r) W6 (W7.setCell ⟨eb, 2, none⟩ (.slice A7 (l.length + 1) c7)) ∧ (∀ x, A7.map (·.block) = some x → r = some x ∨ W6.heap.size ≤ x) := by
  have hEc := hE.same hk
  have hz := hk.size
  have heb := hE.top.lt
  have hr : (Value.slice A l.length c).ownBlock = r := hE.own
  rw [hr] at hg hwh
  have k7 : Keep (fun i => some i = r) Wc W7 := (Keep.refl _ Wc).grown hg (fun g e _ => e.symm)
  have hebr : ¬ some eb = r := by
    intro e
    obtain ⟨cur, hc⟩ := own_row hEc.row (hr.trans e.symm)
    exact blk_ne hEc.top hc (by decide) rfl
  have hrl : ∀ x, r = some x → x < W6.heap.size := fun x e => hE.row.lt x (hr.trans e)
  have t7 : Blk W7 eb 69 #[va, vn, .slice A l.length c] := hEc.top.keep k7 hebr
  have k8 : Keep (fun i => i = eb) W7 (W7.setCell ⟨eb, 2, none⟩ (.slice A7 (l.length + 1) c7)) := (Keep.refl _ W7).put 2 _
  have kk : Keep (fun i => i = eb ∨ some i = r) Wc (W7.setCell ⟨eb, 2, none⟩ (.slice A7 (l.length + 1) c7)) := (k7.wide (fun i _ e => .inr e)).trans k8 (fun i _ e => .inl e)
  have kk6 : Keep (fun i => i = eb ∨ some i = r) W6 (W7.setCell ⟨eb, 2, none⟩ (.slice A7 (l.length + 1) c7)) := (hk.wide (fun _ _ f => f.elim)).trans kk (fun i _ e => e)
  have hfr : ∀ x, A7.map (·.block) = some x → r = some x ∨ Wc.heap.size ≤ x := by
    intro x e
    rcases hwh with h1 | h1
    · exact .inl (h1.symm.trans e)
    · rw [h1] at e; injection e with e; exact .inr (by omega)
  have hset : ∀ g cs, Blk Wc g 72 cs → ¬ (g = eb ∨ some g = r) := by
    intro g cs hb
    rintro (e | e)
    · exact blk_ne hb hEc.top (by decide) e
    · obtain ⟨cur, hc⟩ := own_row hEc.row (hr.trans e.symm)
      exact blk_ne hb hc (by decide) rfl
  refine ⟨⟨t7.put 2 _, hEc.all_.keepBut kk hset, hEc.nodes_.keepBut kk hset, ?_, ownb _ _ _, ?_, by simp; omega, hE.lo⟩, kk6, fun x e => (hfr x e).imp id (fun h => by omega)⟩
  · rw [adcells_snoc, show (l ++ [a]).length = l.length + 1 from by simp]
    refine hown.keepB k8 (fun g e1 e2 => ?_)
    obtain ⟨cur, hc⟩ := own_row hown e1
    exact blk_ne hc t7 (by decide) e2
  · intro b hb
    rw [List.mem_append] at hb
    rcases hb with hb | hb
    · obtain ⟨h1, h2⟩ := hEc.each b hb
      have h3 : SrOk Wc (fun i => (i = eb ∨ some i = A7.map (·.block)) ∨ (i = eb ∨ some i = r)) b.s := Sl.wide h1 (fun i hi e => by
        rcases e with (e | e) | e
        · exact .inl e
        · rcases hfr i e.symm with h | h
          · exact .inr h.symm
          · omega
        · exact e)
      exact ⟨Sl.wide (Sl.keep h3 kk (fun i _ e => .inr e)) (fun i _ e => .inl e), h2⟩
    · rw [List.mem_singleton.1 hb]
      have h3 : SrOk Wc (fun i => (i = eb ∨ some i = A7.map (·.block)) ∨ (i = eb ∨ some i = r)) a.s := Sl.wide hs (fun i hi e => by
        show i < W6.heap.size
        rcases e with (e | e) | (e | e)
        · omega
        · rcases hfr i e.symm with h | h
          · exact hrl i h
          · omega
        · omega
        · exact hrl i e.symm)
      exact ⟨Sl.wide (Sl.keep h3 kk (fun i _ e => .inr e)) (fun i _ e => .inl e), hn⟩
end Go.Proofs.YtafpcffhkbeloaaDoor

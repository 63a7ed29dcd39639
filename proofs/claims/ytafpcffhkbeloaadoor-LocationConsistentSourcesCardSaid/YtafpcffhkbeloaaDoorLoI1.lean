import Derived.Test.YtafpcffhkbeloaaDoorLoI0
namespace Go.Proofs.YtafpcffhkbeloaaDoor
open Go.RowKit

theorem EAd : Elem Tryd.prog 67 77 3 40 (.agg #[.int .i64 0, .slice none 0 0, .bool false]) := ⟨Tryd.underlying67, by kernel_rfl, rfl, by decide⟩
/-- what the append and the store leave -/
theorem add_side {Wc W7 : World} {eb : Nat} {r : Option Nat} {base : Nat} {va vn : Value} {A : Option Addr} {c : Nat} {all nodes : List Nat} {l : List Ad} (hE : IsEst Wc eb r base va vn (.slice A l.length c) all nodes l)
    {sb g : Nat} {cs ds : Array Value} (hs : Blk Wc sb 40 cs) (hv : Blk Wc g 32 ds) (hg : Wc.grownBy W7 (Value.slice A l.length c).ownBlock) :
    (Blk W7 eb 69 #[va, vn, .slice A l.length c] ∧ Blk W7 sb 40 cs ∧ Blk W7 g 32 ds) ∧
    ∀ v, Blk (W7.setCell ⟨eb, 2, none⟩ v) eb 69 #[va, vn, v] ∧ Blk (W7.setCell ⟨eb, 2, none⟩ v) sb 40 cs ∧ Blk (W7.setCell ⟨eb, 2, none⟩ v) g 32 ds := by
  have k7 : Keep (fun i => some i = (Value.slice A l.length c).ownBlock) Wc W7 := (Keep.refl _ Wc).grown hg (fun g e _ => e.symm)
  have hne : ∀ b t cs, Blk Wc b t cs → t ≠ 77 → ¬ some b = (Value.slice A l.length c).ownBlock := by
    intro b t cs hb ht e
    obtain ⟨cur, hc⟩ := own_row hE.row e.symm
    exact blk_ne hb hc ht rfl
  have t7 := hE.top.keep k7 (hne _ _ _ hE.top (by decide))
  have s7 := hs.keep k7 (hne _ _ _ hs (by decide))
  have v7 := hv.keep k7 (hne _ _ _ hv (by decide))
  refine ⟨⟨t7, s7, v7⟩, fun v => ?_⟩
  have k8 : Keep (fun i => i = eb) W7 (W7.setCell ⟨eb, 2, none⟩ v) := (Keep.refl _ W7).put 2 _
  exact ⟨t7.put 2 _, s7.keep k8 (fun e => blk_ne s7 t7 (by decide) e), v7.keep k8 (fun e => blk_ne v7 t7 (by decide) e)⟩
/-- the new nodes -/
theorem IsEst.nodes {W : World} {eb : Nat} {r : Option Nat} {base : Nat} {va vn R v2 : Value} {all nodes n2 : List Nat} {l : List Ad} (h : IsEst W eb r base va vn R all nodes l) (h2 : IsSet W v2 n2) :
    IsEst (W.setCell ⟨eb, 1, none⟩ v2) eb r base va v2 R all n2 l ∧ Keep (fun i => i = eb) W (W.setCell ⟨eb, 1, none⟩ v2) := by
  have k8 : Keep (fun i => i = eb) W (W.setCell ⟨eb, 1, none⟩ v2) := (Keep.refl _ W).put 1 _
  have hset : ∀ g cs, Blk W g 72 cs → ¬ (g = eb) := fun g cs hb e => blk_ne hb h.top (by decide) e
  refine ⟨⟨h.top.put 1 _, h.all_.keepBut k8 hset, h2.keepBut k8 hset, h.row.keepB k8 (fun g e1 e2 => ?_), h.own, fun a ha => ⟨Sl.keep (h.each a ha).1 k8 (fun i _ e => .inl e), (h.each a ha).2⟩, h.few, h.lo⟩, k8⟩
  obtain ⟨cur, hc⟩ := own_row h.row e1
  exact blk_ne hc h.top (by decide) e2
end Go.Proofs.YtafpcffhkbeloaaDoor

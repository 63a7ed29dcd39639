import Derived.Test.YtbellndcgagclaaSmall
import Derived.Deep.RegionHeld3
import Derived.Deep.RegionLaw
namespace Go.Proofs.Ytbellndcgagclaa
open Go.RowKit

/-- append as one step of a region that draws -/
theorem Elem.step {P : Program} {t e : TypeId} {size bytes : Nat} {z : Value} (E : Elem P t e size bytes z) {ops : Array Oper} {o : Oper} {a : Act} {w : World} {K : Act → World → Prop} {Q : Exit → Act → World → Prop} {F : Prop}
    (hg : o.guard = none) (s x : Operand) (hop : o.op = Op.call { callee := Callee.builtin Builtin.append, args := #[s, x], argTypes := #[t, t] })
    (v : Value) (A : Option Addr) (m c : Nat) (hs : a.eval s = v) (hx : a.eval x = .slice A m c)
    (base n : Nat) (xs news : List Value) (hown : Own w base e size v n xs) (hl : news.length = m * size) (hA : 0 < m → ∃ ad, A = some ad ∧ ∀ j u, news[j]? = some u → w.cell? (ad.add j) = some u) (h1 : ∀ u ∈ news, u.oneCell' = true)
    (hb : (n + m) * bytes ≤ 140737488355328) (h63 : n + m ≤ maxLen) (hbase : base ≤ w.heap.size)
    (hK : ∀ A' c' w', Own w' base e size (.slice A' (n + m) c') (n + m) (xs ++ news) → w.grownBy w' v.ownBlock → (A'.map (·.block) = v.ownBlock ∨ A'.map (·.block) = some w.heap.size) → K (a.put o.dst (.slice A' (n + m) c')) w') :
    if Region.wanted o (yielded ops a.tmps) = true then Oper.wp P o a w K Q else F := by
  have hw : Region.wanted o (yielded ops a.tmps) = true := by simp [Region.wanted, hg]
  rw [if_pos hw]
  obtain ⟨v', w', hrun, h2, h3⟩ := E.append w base o.type v n xs hown A m c news hl hA h1 hb h63 hbase
  have hwh := E.append_where w base o.type v n xs hown A m c news hl hA h1 hb h63 hrun
  unfold Oper.wp execOp
  simp only [hop, resolve, invoke, builtin, Sem.run_bind, Sem.run_pure, Result.andThen_ok, List.map_toArray, List.map_cons, List.map_nil, hs, hx, hrun]
  obtain ⟨A', c', rfl⟩ := h2.shape
  refine hK A' c' w' h2 h3 ?_
  cases A' <;> simpa [Value.ownBlock] using hwh

def ClonePost (w : World) (x : En) (e : Ending) (w' : World) : Prop :=
  ∃ B d, e = .returned (En.val ⟨x.t, x.k, B, x.m, d, x.body⟩) ∧ EnOk w' (· < w.heap.size) ⟨x.t, x.k, B, x.m, d, x.body⟩ ∧ Same w w'
set_option maxRecDepth 100000 in
theorem clone_any (w : World) (Av : Nat → Prop) (x : En) (h : EnOk w Av x) (h8 : x.m ≤ 8192) : Calls Try.prog 39 #[x.val] w (ClonePost w x) := by
  obtain ⟨t, k, A, m, c, y⟩ := x
  have hl : y.length = m := h.len
  have hk := Keep.two w (.cells #[.int .i64 t, .int .i64 k, .slice A m c] 46) (.cells #[.int .i64 0, .int .i64 0, .slice none 0 0] 46)
  have HS := hid (fun W (hs : Same w W) => h.body.same hs)
  have HB := hid h.bytes
  simp only at h8
  clear h
  unfold En.val
  go_enter Try.func39, Try.ntmps39
  go_wp2_with fail
  have HK := hid hk.drew
  have hB0 := ((Blk.made w 46 #[.int .i64 t, .int .i64 k, .slice A m c]).alloc (.cells #[.int .i64 0, .int .i64 0, .slice none 0 0] 46)).drew
  have hC0 := (Blk.made (w.alloc (.cells #[.int .i64 t, .int .i64 k, .slice A m c] 46)) 46 #[.int .i64 0, .int .i64 0, .slice none 0 0]).drew
  rw [World.size_alloc] at hC0
  have hS0 : Hid (((w.alloc (.cells #[.int .i64 t, .int .i64 k, .slice A m c] 46)).alloc (.cells #[.int .i64 0, .int .i64 0, .slice none 0 0] 46)).drew.cell? ⟨w.heap.size, 0, none⟩ = some (.int .i64 t) ∧
    ((w.alloc (.cells #[.int .i64 t, .int .i64 k, .slice A m c] 46)).alloc (.cells #[.int .i64 0, .int .i64 0, .slice none 0 0] 46)).drew.cell? ⟨w.heap.size, 1, none⟩ = some (.int .i64 k) ∧
    ((w.alloc (.cells #[.int .i64 t, .int .i64 k, .slice A m c] 46)).alloc (.cells #[.int .i64 0, .int .i64 0, .slice none 0 0] 46)).drew.cell? ⟨w.heap.size, 2, none⟩ = some (.slice A m c)) := ⟨hB0.at_ 0, hB0.at_ 1, hB0.at_ 2⟩
  go_region_held3 (fun w' => w'.cell? ⟨w.heap.size, 0, none⟩ = some (.int .i64 t) ∧ w'.cell? ⟨w.heap.size, 1, none⟩ = some (.int .i64 k) ∧ w'.cell? ⟨w.heap.size, 2, none⟩ = some (.slice A m c))
    (first | exact hS0 | exact hS1 | go_keep)
    (first
      | (refine E44.step rfl (.const (.slice none 0 0)) (.tmp 8) rfl (.slice none 0 0) A m c rfl rfl (w.heap.size + 2) 0 [] (ubs y) (Own.nil _ _ _ _) (by simp [ubs, hl]) ((HS.out _ HK.out).src (Keep.refl _ _)) (ubs_one y) (by omega) (by unfold maxLen; omega) (by simp) ?_
         intro A' c' w' hown hgr hwh
         have hK1 := HK.out.grown hgr (by simp [Value.ownBlock])
         have hB1 := hB0.keep ((Keep.refl (fun _ => False) _).grown hgr (by simp [Value.ownBlock])) (fun f => f)
         have hS1 : Hid (w'.cell? ⟨w.heap.size, 0, none⟩ = some (.int .i64 t) ∧ w'.cell? ⟨w.heap.size, 1, none⟩ = some (.int .i64 k) ∧ w'.cell? ⟨w.heap.size, 2, none⟩ = some (.slice A m c)) := ⟨hB1.at_ 0, hB1.at_ 1, hB1.at_ 2⟩
         have hC1 := hC0.keep ((Keep.refl (fun _ => False) _).grown hgr (by simp [Value.ownBlock])) (fun f => f)
         have c0 : w'.cell? ⟨w.heap.size + 1, 0, none⟩ = some (.int .i64 0) := hC1.at_ 0
         have c1 : w'.cell? ⟨w.heap.size + 1, 1, none⟩ = some (.int .i64 0) := hC1.at_ 1
         have c2 : w'.cell? ⟨w.heap.size + 1, 2, none⟩ = some (.slice none 0 0) := hC1.at_ 2
         have f0 : w'.frozen? ⟨w.heap.size + 1, 0, none⟩ = false := hC1.free 0
         have f1 : w'.frozen? ⟨w.heap.size + 1, 1, none⟩ = false := hC1.free 1
         have f2 : w'.frozen? ⟨w.heap.size + 1, 2, none⟩ = false := hC1.free 2
         have HC1 := hid hC1
         have HO := hid hown
         have HK1 := hid hK1
         have HG := hid hgr
         clear hown hgr hwh hK1 hB1 hC1))
  have HC2 := hid (((HC1.out.put 0 (.int .i64 t)).put 1 (.int .i64 k)).put 2 (.slice A' m c'))
  go_wp2_with fail
  generalize hW : ((w'.setCell ⟨w.heap.size + 1, 0, none⟩ (.int .i64 t)).setCell ⟨w.heap.size + 1, 1, none⟩ (.int .i64 k)).setCell ⟨w.heap.size + 1, 2, none⟩ (.slice A' m c') = W at *
  have r0 : W.cell? ⟨w.heap.size + 1, 0, none⟩ = some (.int .i64 t) := HC2.out.at_ 0
  have r1 : W.cell? ⟨w.heap.size + 1, 1, none⟩ = some (.int .i64 k) := HC2.out.at_ 1
  have r2 : W.cell? ⟨w.heap.size + 1, 2, none⟩ = some (.slice A' m c') := HC2.out.at_ 2
  refine bodyPost_ret (v := .agg #[.int .i64 t, .int .i64 k, .slice A' m c']) (by simp [results, Try.results39, go_sem, r0, r1, r2]) rfl ⟨A', c', rfl, ?_, ?_⟩
  · have hk3 : Keep (· = w.heap.size + 1) w' W := by
      rw [← hW]
      exact (((Keep.refl _ w').put 0 _).put 1 _).put 2 _
    have ho : Own w' (w.heap.size + 2) 5 1 (.slice A' m c') m (ubs y) := by simpa using HO.out
    have ho2 := ho.keep hk3 (fun i hi _ => by omega)
    refine ⟨ho2.sl (fun g hg => by omega), HB.out, ?_⟩
    rcases Nat.eq_zero_or_pos m with h0 | h0
    · simp [h0]
    · obtain ⟨_, _, _, _, _, h1, _⟩ := ho2.open_ h0
      exact h1
  · rw [← hW]
    exact ((HK1.out.setCell (fun h => absurd (show w.heap.size + 1 < w.heap.size from h) (by omega)) _).setCell (fun h => absurd (show w.heap.size + 1 < w.heap.size from h) (by omega)) _).setCell (fun h => absurd (show w.heap.size + 1 < w.heap.size from h) (by omega)) _
end Go.Proofs.Ytbellndcgagclaa

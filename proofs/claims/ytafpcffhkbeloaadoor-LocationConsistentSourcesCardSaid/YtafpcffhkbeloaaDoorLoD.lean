import Derived.Test.YtafpcffhkbeloaaDoorLoC
import Derived.Test.YtafpcffhkbeloaaDoorNsH
import Derived.Test.YtafpcffhkbeloaaDoorNsC
namespace Go.Proofs.YtafpcffhkbeloaaDoor
open Go.RowKit

theorem results_cell_tmp {P : Program} {fn : Func} {p q : Tmp} {ty : TypeId} (h : fn.results = #[.cell p ty, .tmp q]) (tmps : Array Value) (w : World) (g : Nat) (t : TypeId) (cs : Array Value) (fr : Nat × Nat) (d : TypeDesc) (v : Value)
    (hp : tmps.getD p undef = .pointer (some ⟨g, 0, none⟩)) (hq : tmps.getD q undef = v) (hg : w.heap[g]? = some (.cells cs t fr))
    (hu : P.underlying ty = some d) (hd : (match d with | .struct _ | .array _ _ => true | _ => false) = true) (hi : (P.info? ty).map (·.size) = some cs.size) :
    (results fn tmps).run P w = .ok (.tuple #[.agg cs, v]) w := by
  have hp' : tmps[p]?.getD undef = .pointer (some ⟨g, 0, none⟩) := by simpa using hp
  have hq' : tmps[q]?.getD undef = v := by simpa using hq
  simp [results, h, hp', hq', asAddr, run_loadVar_row w g t ty cs fr d hg hu hd hi]
theorem Own.lit0 (w : World) (e : TypeId) (size : Nat) : Own (w.alloc (.cells #[] e)) w.heap.size e size (.slice (some ⟨w.heap.size, 0, none⟩) 0 0) 0 [] :=
  Own.of_blk (Nat.le_refl _) (Blk.made w e #[]) (Nat.le_refl _) (by simp) (by simp) (by simp)
theorem icells_one (l : List Int) : ∀ u ∈ icells l, u.oneCell' = true := by
  intro u hu
  simp only [icells, List.mem_map] at hu
  obtain ⟨x, _, rfl⟩ := hu
  rfl
set_option maxRecDepth 100000 in
set_option maxHeartbeats 4000000 in
theorem clone_any (w : World) (Av : Nat → Prop) (A : Option Addr) (c : Nat) (l : List Int) (h : Sl w Av 1 A l.length (icells l)) (hn : l.length ≤ 1000000) :
    Calls Tryd.prog 49 #[.slice A l.length c] w fun e w' => ∃ A' c', e = .returned (.slice A' l.length c') ∧ Sl w' (· < w.heap.size) 1 A' l.length (icells l) ∧ Same w w' := by
  have q22 := fun (w : World) (a : Option Addr) (n c n' c' : Nat) => Lib.run_eql_slice_nil (P := Tryd.prog) w _ _ a n c n' c' Tryd.underlying22
  have hK0 : Same w (w.alloc (.cells #[] 3)) := (Keep.refl _ _).alloc _
  have hl := h.len
  cases A with
  | none =>
    have h0 : l.length = 0 := by
      by_cases hz : l.length = 0
      · exact hz
      · obtain ⟨b, off, e, _⟩ := h.at_ (by omega)
        cases e
    have HN := hid h0
    have HH := hid h
    clear h h0 hl
    go_enter Tryd.func49, Tryd.ntmps49
    go_wp2_with fail
    go_ret
    refine ⟨none, 0, by rw [HN.out]; rfl, ?_, Keep.refl _ _⟩
    have hh := List.length_eq_zero_iff.1 HN.out
    rw [hh]; exact Sl.nil _ _ _ _
  | some ad =>
    have HH := hid h
    have HL := hid hl
    have HK0 := hid hK0
    have hsrc := hid (h.src hK0)
    clear h hl hK0
    go_enter Tryd.func49, Tryd.ntmps49
    go_wp2_with (at_builtin; refine EInt.law (.tmp 5) (.tmp 6) (.slice (some ⟨w.heap.size, 0, none⟩) 0 0) (some ad) l.length c rfl rfl rfl rfl w.heap.size 0 [] (icells l) (Own.lit0 w _ 1) HL.out hsrc.out (icells_one l) (by omega) (by unfold maxLen; omega) (by simp) ?_; intro A' c' w1 hown hg; have HOW := hid hown; have HG := hid hg; clear hown hg)
    go_ret
    have hown := HOW.out
    simp only [Nat.zero_add, List.nil_append] at hown ⊢
    exact ⟨A', c', rfl, hown.sl (fun g hg => by omega), HK0.out.app (Own.lit0 w _ 1) HG.out (fun g h1 h2 => by omega)⟩
def CopyPost (w : World) (s : Sr) (e : Ending) (w' : World) : Prop := ∃ A' c', e = .returned (.agg (Sr.cells ⟨s.kd, A', c', s.ns⟩).toArray) ∧ SrOk w' (· < w.heap.size) ⟨s.kd, A', c', s.ns⟩ ∧ Same w w'
set_option maxRecDepth 100000 in
set_option maxHeartbeats 4000000 in
theorem copy_any (w : World) (Av : Nat → Prop) (s : Sr) (h : SrOk w Av s) (hn : s.ns.length ≤ 1000000) :
    Calls Tryd.prog 38 #[.agg s.cells.toArray] w (CopyPost w s) := by
  have hk : Same w ((w.alloc (.cells s.cells.toArray 40)).alloc (.cells #[.int .i64 0, .slice none 0 0] 40)) := ((Keep.refl _ _).alloc _).alloc _
  have ha := (Blk.made w 40 s.cells.toArray).alloc (.cells #[.int .i64 0, .slice none 0 0] 40)
  have hb := Blk.made (w.alloc (.cells s.cells.toArray 40)) 40 #[.int .i64 0, .slice none 0 0]
  rw [World.size_alloc] at hb
  go_enter Tryd.func38, Tryd.ntmps38
  go_upto_region 1 with fail
  generalize ((w.alloc (.cells s.cells.toArray 40)).alloc (.cells #[.int .i64 0, .slice none 0 0] 40)) = w1 at *
  have HA := hid ha
  have HB := hid hb
  have HK := hid hk
  have HCL := hid (fun W (hk2 : Same w1 W) => clone_any W Av s.A s.c s.ns ((Sl.same h hk).same hk2) hn)
  have s0 : w1.cell? ⟨w.heap.size, 0, none⟩ = some (.int .i64 s.kd) := ha.at_ 0
  have s1 : w1.cell? ⟨w.heap.size, 1, none⟩ = some (.slice s.A s.ns.length s.c) := ha.at_ 1
  clear ha hb h
  refine wp_region_held_drew (S := fun W => W.cell? ⟨w.heap.size, 0, none⟩ = some (.int .i64 s.kd) ∧ W.cell? ⟨w.heap.size, 1, none⟩ = some (.slice s.A s.ns.length s.c)) (by kernel_rfl) ⟨s0, s1⟩ (fun hHeld => ?_)
  refine takeO (i := 0) (v := ?_) (by kernel_rfl) (by kernel_rfl) (by kernel_rfl) (fun c a d v w h => by cases d <;> exact h) (oi := ?_) ?_ ?_ (by assumption) ?_
  rotate_left 2
  · (simp only [List.getElem?_toArray, List.getElem?_cons_zero]; rfl)
  · (refine Or.inl ⟨by rfl, ?_⟩; intro w hSw; (try dsimp only at hSw); go_simp; try with_reducible rfl)
  try simp only [Act.put, List.setIfInBounds_toArray, List.set_cons_zero, List.set_cons_succ]
  refine takeO (i := 1) (v := ?_) (by kernel_rfl) (by kernel_rfl) (by kernel_rfl) (fun c a d v w h => by cases d <;> exact h) (oi := ?_) ?_ ?_ (by assumption) ?_
  rotate_left 2
  · (simp only [List.getElem?_toArray, List.getElem?_cons_succ, List.getElem?_cons_zero]; rfl)
  · (refine Or.inl ⟨by rfl, ?_⟩; intro w hSw; (try dsimp only at hSw); go_simp; try with_reducible rfl)
  try simp only [Act.put, List.setIfInBounds_toArray, List.set_cons_zero, List.set_cons_succ]
  refine takeO (i := 2) (v := ?_) (by kernel_rfl) (by kernel_rfl) (by kernel_rfl) (fun c a d v w h => by cases d <;> exact h) (oi := ?_) ?_ ?_ (by assumption) ?_
  rotate_left 2
  · (simp only [List.getElem?_toArray, List.getElem?_cons_succ, List.getElem?_cons_zero]; rfl)
  · (refine Or.inl ⟨by rfl, ?_⟩; intro w hSw; (try dsimp only at hSw); go_simp; try with_reducible rfl)
  try simp only [Act.put, List.setIfInBounds_toArray, List.set_cons_zero, List.set_cons_succ]
  refine takeO (i := 3) (v := ?_) (by kernel_rfl) (by kernel_rfl) (by kernel_rfl) (fun c a d v w h => by cases d <;> exact h) (oi := ?_) ?_ ?_ (by assumption) ?_
  rotate_left 2
  · (simp only [List.getElem?_toArray, List.getElem?_cons_succ, List.getElem?_cons_zero]; rfl)
  · (refine Or.inl ⟨by rfl, ?_⟩; intro w hSw; (try dsimp only at hSw); go_simp; try with_reducible rfl)
  try simp only [Act.put, List.setIfInBounds_toArray, List.set_cons_zero, List.set_cons_succ]
  refine wpAnyH_ready (rs := [4]) (by kernel_rfl) (by simp) ?_
  refine AllReadyH.cons rfl (fun K hK => ?_) AllReadyH.nil
  go_simp
  refine (HCL.out _ (Keep.refl _ _).drew).mono ?_
  rintro e w3 ⟨A3, c3, rfl, hs3, hk3⟩
  have hk3b : Same w1 w3 := (Keep.refl _ _).drew.then hk3
  have HK3 := hid hk3b
  have HS3 := hid hs3
  have HB3 := hid (HB.out.keep hk3b (fun f => f))
  have HA3 := hid (HA.out.keep hk3b (fun f => f))
  clear hs3 hk3
  refine hK.out _ _ ⟨HA3.out.at_ 0, HA3.out.at_ 1⟩ (fun hHeld1 => ?_)
  clear hK K
  try simp only [Act.put, List.setIfInBounds_toArray, List.set_cons_zero, List.set_cons_succ]
  refine takeO (i := 5) (v := ?_) (by kernel_rfl) (by kernel_rfl) (by kernel_rfl) (fun c a d v w h => by cases d <;> exact h) (oi := ?_) ?_ ?_ (by assumption) ?_
  rotate_left 2
  · (simp only [List.getElem?_toArray, List.getElem?_cons_succ, List.getElem?_cons_zero]; rfl)
  · (refine Or.inl ⟨by rfl, ?_⟩; intro w hSw; (try dsimp only at hSw); go_simp; try with_reducible rfl)
  try simp only [Act.put, List.setIfInBounds_toArray, List.set_cons_zero, List.set_cons_succ]
  refine wpAnyH_ready (rs := [6]) (by kernel_rfl) (by simp) ?_
  refine AllReadyH.cons rfl (fun K hK => ?_) AllReadyH.nil
  refine store_step rfl _ (.tmp 2) (.tmp 8) rfl (w.heap.size + 1) ((#[.int .i64 s.kd, .slice A3 s.ns.length c3])) rfl rfl 40 _ HB3.out (by kernel_rfl) rfl (by simp [Value.oneCell']) ?_
  have HA4 := hid (HA3.out.keep (Keep.row w3 (w.heap.size + 1) #[.int .i64 s.kd, .slice A3 s.ns.length c3]) (fun e => by have e2 : w.heap.size = w.heap.size + 1 := e; omega))
  refine hK.out _ _ ⟨HA4.out.at_ 0, HA4.out.at_ 1⟩ (fun hHeld2 => ?_)
  clear hK K
  try simp only [Act.put, List.setIfInBounds_toArray]
  refine wpAnyH_done (by kernel_rfl) ?_ _
  go_wp2_with fail
  refine bodyPost_ret (results_cell_row rfl _ _ _ _ _ _ _ rfl (Blk.row HB3.out _) Tryd.underlying40 rfl (by kernel_rfl)) rfl ?_
  refine ⟨A3, c3, rfl, ?_, (HK.out.then HK3.out).trans (Keep.row _ _ _) (fun i hi e => by have e2 : i = w.heap.size + 1 := e; omega)⟩
  have hz := HK.out.size
  have h1 := Sl.keep HS3.out (Keep.row w3 (w.heap.size + 1) #[.int .i64 s.kd, .slice A3 s.ns.length c3]) (fun i hi e => by have e2 : i = w.heap.size + 1 := e; have := Blk.lt HB.out; show i < w1.heap.size; omega)
  exact h1.wide (fun i hi e => by have e2 : i < w.heap.size := e; show i < w1.heap.size; omega)
end Go.Proofs.YtafpcffhkbeloaaDoor

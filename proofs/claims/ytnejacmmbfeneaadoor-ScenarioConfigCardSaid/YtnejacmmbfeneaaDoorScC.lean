import Derived.Test.YtnejacmmbfeneaaDoorScT
import Derived.Test.YtnejacmmbfeneaaDoorScQ
import Derived.Test.YtnejacmmbfeneaaDoorScB
import Derived.Test.YtnejacmmbfeneaaDoorRegU
import Derived.Deep.Cut
import Derived.Laws.Rows
import Derived.Laws.Tables
namespace Go.Proofs.YtnejacmmbfeneaaDoor
open Go.RowKit

/-! ## The default configurations; addRoad -/
def z15 : List Value := [.int .i64 0, .slice none 0 0, .slice none 0 0, .slice none 0 0, .slice none 0 0, .int .i64 0, .int .i64 0, .int .i64 0, .int .i64 0, .int .i64 0, .int .i64 0, .int .i64 0, .int .i64 0, .int .i64 0, .int .i64 0]
def dflt : CF := ⟨0, none, 0, [], none, 0, [], none, 0, [], none, 0, [], 2, 10, 12, 20, 30, 4, 10, 50, 1, 8⟩
theorem z15_one : ∀ u ∈ z15, u.oneCell' = true := by
  intro u hu
  simp only [z15, List.mem_cons, List.not_mem_nil, or_false] at hu
  rcases hu with rfl | rfl | rfl | rfl | rfl | rfl | rfl | rfl | rfl | rfl | rfl | rfl | rfl | rfl | rfl <;> rfl
theorem CF.one (c : CF) : ∀ u ∈ c.cells, u.oneCell' = true := by
  intro u hu
  simp only [CF.cells, List.mem_cons, List.not_mem_nil, or_false] at hu
  rcases hu with rfl | rfl | rfl | rfl | rfl | rfl | rfl | rfl | rfl | rfl | rfl | rfl | rfl | rfl | rfl <;> rfl
def DfPost (w : World) (e : Ending) (w' : World) : Prop := e = .returned (.agg dflt.cells.toArray) ∧ Same w w'
set_option maxRecDepth 100000 in
theorem default_any (w : World) : Calls Tryd.prog 14 #[] w (DfPost w) := by
  have hz := Blk.made w 30 z15.toArray
  have HK := hid ((Keep.refl (fun _ => False) w).alloc (.cells z15.toArray 30))
  simp only [z15] at *
  go_enter Tryd.func14, Tryd.ntmps14
  go_upto_region 1 with fail
  generalize hw1 : (w.alloc (.cells #[.int .i64 0, .slice none 0 0, .slice none 0 0, .slice none 0 0, .slice none 0 0, .int .i64 0, .int .i64 0, .int .i64 0, .int .i64 0, .int .i64 0, .int .i64 0, .int .i64 0, .int .i64 0, .int .i64 0, .int .i64 0] 30)) = w1 at *
  have HZ := hid hz
  clear hz
  go_wp2_with (refine wpList_store_row rfl _ (.tmp 0) (.tmp 1) rfl w.heap.size dflt.cells.toArray rfl rfl _ _ HZ.out (by kernel_rfl) rfl (one_toArray (CF.one dflt)) ?_)
  refine bodyPost_ret (results_cell_row rfl _ _ _ _ _ _ _ rfl (HZ.out.row _) Tryd.underlying30 rfl (by kernel_rfl)) rfl ⟨rfl, HK.out.trans (Keep.row _ _ _) (fun i hi e => by have e2 : i = w.heap.size := e; omega)⟩
set_option maxRecDepth 100000 in
theorem rdefault_any (w : World) : Calls Tryd.prog 18 #[] w (DfPost w) := by
  have hz := Blk.made w 30 z15.toArray
  have HK := hid ((Keep.refl (fun _ => False) w).alloc (.cells z15.toArray 30))
  simp only [z15] at *
  go_enter Tryd.func18, Tryd.ntmps18
  go_upto_region 1 with fail
  generalize hw1 : (w.alloc (.cells #[.int .i64 0, .slice none 0 0, .slice none 0 0, .slice none 0 0, .slice none 0 0, .int .i64 0, .int .i64 0, .int .i64 0, .int .i64 0, .int .i64 0, .int .i64 0, .int .i64 0, .int .i64 0, .int .i64 0, .int .i64 0] 30)) = w1 at *
  have HZ := hid hz
  clear hz
  go_wp2_with (refine wpList_store_row rfl _ (.tmp 0) (.tmp 1) rfl w.heap.size dflt.cells.toArray rfl rfl _ _ HZ.out (by kernel_rfl) rfl (one_toArray (CF.one dflt)) ?_)
  refine bodyPost_ret (results_cell_row rfl _ _ _ _ _ _ _ rfl (HZ.out.row _) Tryd.underlying30 rfl (by kernel_rfl)) rfl ⟨rfl, HK.out.trans (Keep.row _ _ _) (fun i hi e => by have e2 : i = w.heap.size := e; omega)⟩

theorem EEd : Elem Tryd.prog 26 62 3 24 (.agg #[.int .i64 0, .int .i64 0, .int .i64 0]) := ⟨Tryd.underlying26, by kernel_rfl, rfl, by decide⟩
theorem e3_one (l : List E3) : ∀ u ∈ e3cells l, u.oneCell' = true := by
  intro u hu
  obtain ⟨e, _, he⟩ := List.mem_flatMap.1 hu
  simp only [E3.cells, List.mem_cons, List.not_mem_nil, or_false] at he
  rcases he with rfl | rfl | rfl <;> rfl
theorem e3_app (l m : List E3) : e3cells (l ++ m) = e3cells l ++ e3cells m := by simp [e3cells]
/-- What an append to a row of the call's own says. -/
def GrowPost (w : World) (base : Nat) (e : TypeId) (size : Nat) (v : Value) (n : Nat) (xs : List Value) (r : Ending) (w' : World) : Prop :=
  ∃ A c, r = .returned (.slice A n c) ∧ Own w' base e size (.slice A n c) n xs ∧ Keep (fun g => v.ownBlock = some g) w w' ∧ ((Value.slice A n c).ownBlock = v.ownBlock ∨ ∃ g, (Value.slice A n c).ownBlock = some g ∧ w.heap.size ≤ g)
set_option maxRecDepth 100000 in
theorem addroad_any (w : World) (base : Nat) (A : Option Addr) (c : Nat) (l : List E3) (x y t : Int) (ho : Own w base 62 3 (.slice A l.length c) l.length (e3cells l)) (hb : base ≤ w.heap.size) (hn : l.length ≤ 1000000) :
    Calls Tryd.prog 15 #[.slice A l.length c, .int .i64 x, .int .i64 y, .int .i64 t] w (GrowPost w base 62 3 (.slice A l.length c) (l.length + 2) (e3cells (l ++ two x y t))) := by
  have HO := hid ho
  have HK := hid ((Keep.refl (fun g => (Value.slice A l.length c).ownBlock = some g) w).alloc (.cells #[.int .i64 x, .int .i64 y, .int .i64 t, .int .i64 y, .int .i64 x, .int .i64 t] 62))
  have HO2 := hid (ho.keepB ((Keep.refl (fun _ => False) w).alloc (.cells #[.int .i64 x, .int .i64 y, .int .i64 t, .int .i64 y, .int .i64 x, .int .i64 t] 62)) (fun _ _ f => f))
  have HS := hid (src_new (w := w) (cs := #[.int .i64 x, .int .i64 y, .int .i64 t, .int .i64 y, .int .i64 x, .int .i64 t]) (t := 62) (news := e3cells (two x y t)) rfl)
  have HB := hid hb
  clear ho hb
  go_enter Tryd.func15, Tryd.ntmps15
  go_wp2_with (refine EEd.law2 (.tmp 9) (.tmp 18) (.slice A l.length c) (some ⟨w.heap.size, 0, none⟩) 2 2 rfl rfl rfl rfl base l.length (e3cells l) (e3cells (two x y t)) (l.length + 2) _ rfl (e3_app l (two x y t)).symm HO2.out rfl (fun _ => ⟨_, rfl, HS.out⟩) (e3_one _) (by omega) (by unfold maxLen; omega) (by have := HB.out; rw [World.size_alloc]; omega) ?_; intro A' c' w' h1 h2 h3; have H1 := hid h1; have H2 := hid h2; have H3 := hid h3; clear h1 h2 h3)
  go_ret
  refine ⟨A', c', rfl, H1.out, HK.out.grown H2.out (fun g e _ => e), ?_⟩
  have h3 := H3.out
  have hsb : (Value.slice A' (l.length + 2) c').ownBlock = A'.map (·.block) := by cases A' <;> rfl
  rcases h3 with h | h
  · exact .inl (hsb.trans h)
  · exact .inr ⟨_, hsb.trans h, by simp⟩
end Go.Proofs.YtnejacmmbfeneaaDoor

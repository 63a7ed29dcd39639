import Derived.Test.YtafpcffhkbeloaaDoorLoD
namespace Go.Proofs.YtafpcffhkbeloaaDoor
open Go.RowKit

/-! ## An estimate in memory -/
structure Ad where
  s : Sr
  ok : Bool
def Ad.cells (a : Ad) : List Value := [.int .i64 a.s.kd, .slice a.s.A a.s.ns.length a.s.c, .bool a.ok]
def adcells (l : List Ad) : List Value := l.flatMap Ad.cells
theorem adcells_len (l : List Ad) : (adcells l).length = l.length * 3 := flat_len Ad.cells 3 (fun _ => rfl) l
theorem adcells_snoc (l : List Ad) (a : Ad) : adcells (l ++ [a]) = adcells l ++ a.cells := by simp [adcells]
/-- r: the block of the sources' row -/
structure IsEst (w : World) (eb : Nat) (r : Option Nat) (base : Nat) (va vn R : Value) (all nodes : List Nat) (l : List Ad) : Prop where
  top : Blk w eb 69 #[va, vn, R]
  all_ : IsSet w va all
  nodes_ : IsSet w vn nodes
  row : Own w base 77 3 R l.length (adcells l)
  own : R.ownBlock = r
  each : ∀ a ∈ l, SrOk w (fun i => i = eb ∨ some i = r) a.s ∧ a.s.ns.length ≤ 4096
  few : l.length ≤ 64
  lo : base ≤ eb
def NewPost (w : World) (ws : List Nat) (e : Ending) (w' : World) : Prop :=
  (ws = zeroW ∧ e = .returned (.tuple #[.pointer none, .int .i64 1]) ∧ Same w w') ∨
  (ws ≠ zeroW ∧ ∃ eb v, e = .returned (.tuple #[.pointer (some ⟨eb, 0, none⟩), .int .i64 0]) ∧ IsEst w' eb none w.heap.size v v (.slice none 0 0) ws ws [] ∧ w.heap.size ≤ eb ∧ Same w w')
theorem elemsW_pos {ws : List Nat} (h : OkW ws) : (elemsW ws).length = 0 ↔ ws = zeroW := by rw [List.length_eq_zero_iff, elems_nil h]
set_option maxRecDepth 100000 in
set_option maxHeartbeats 4000000 in
theorem new_any (w : World) (v : Value) (ws : List Nat) (hs : IsSet w v ws) :
    Calls Tryd.prog 11 #[.agg #[v]] w (NewPost w ws) := by
  have hk : Same w (w.alloc (.cells #[v] 32)) := (Keep.refl _ _).alloc _
  have ha := Blk.made w 32 #[v]
  generalize hw1 : (w.alloc (.cells #[v] 32)) = w1 at *
  have a0 : w1.cell? ⟨w.heap.size, 0, none⟩ = some v := ha.at_ 0
  have HA := hid ha
  have HK := hid hk
  have HLE := hid (len_any w1 v ws (hs.same hk))
  have HS := hid hs
  have hpos := elemsW_pos hs.ok
  clear ha hk hs
  go_enter Tryd.func11, Tryd.ntmps11
  go_upto_region 1 with fail
  try rw [hw1]
  clear hw1
  by_cases hz : ws = zeroW
  · have h0 := hpos.2 hz
    rw [h0] at HLE
    have HZ := hid hz
    clear hz h0 hpos
    go_wp2_with fail
    (with_reducible refine HLE.out.mono ?_)
    rintro e w3 ⟨rfl, hk3⟩
    have HK3 := hid (HK.out.then hk3)
    clear hk3 a0
    go_wp2_with fail
    go_ret2
    exact .inl ⟨HZ.out, rfl, HK3.out⟩
  · have h0 : ¬ (elemsW ws).length = 0 := fun e => hz (hpos.1 e)
    have h1 : ((((elemsW ws).length : Nat) : Int) == 0) = false := by rw [beq_eq_false_iff_ne]; omega
    have HZ := hid hz
    clear hz h0 hpos
    generalize (elemsW ws).length = L at *
    go_wp2_with fail
    (with_reducible refine HLE.out.mono ?_)
    rintro e w3 ⟨rfl, hk3⟩
    have HK3 := hid (HK.out.then hk3)
    have a3 : w3.cell? ⟨w.heap.size, 0, none⟩ = some v := (HA.out.keep hk3 (fun f => f)).at_ 0
    clear hk3 a0
    go_wp2_with fail
    go_ret2
    refine .inr ⟨HZ.out, w3.heap.size, v, rfl, ⟨Blk.made w3 _ _, (HS.out.same HK3.out).same ((Keep.refl _ _).alloc _), (HS.out.same HK3.out).same ((Keep.refl _ _).alloc _), Own.nil _ _ _ _, rfl, (fun a h => by cases h), by simp, HK3.out.size⟩, HK3.out.size, HK3.out.alloc _⟩
set_option maxRecDepth 100000 in
set_option maxHeartbeats 4000000 in
theorem nodes_any (w : World) (eb : Nat) (r : Option Nat) (base : Nat) (va vn R : Value) (all nodes : List Nat) (l : List Ad) (h : IsEst w eb r base va vn R all nodes l) :
    Calls Tryd.prog 21 #[.pointer (some ⟨eb, 0, none⟩)] w fun e w' => e = .returned (.agg #[vn]) ∧ Same w w' := by
  have hk : Same w (w.alloc (.cells #[.pointer none] 32)) := (Keep.refl _ _).alloc _
  have ha := Blk.made w 32 #[.pointer none]
  have ht := h.top.alloc (.cells #[.pointer none] 32)
  have h1 := hid h.nodes_.one
  go_enter Tryd.func21, Tryd.ntmps21
  go_upto_region 1 with fail
  generalize (w.alloc (.cells #[.pointer none] 32)) = w1 at *
  have e0 : (w1.cell? ⟨eb, 0, none⟩).isSome = true := by rw [ht.at_ 0]; rfl
  have e1 : w1.cell? ⟨eb, 1, none⟩ = some vn := ht.at_ 1
  have HA := hid ha
  have HK := hid hk
  clear ha hk ht h
  go_wp2_with (refine wpList_store_row rfl _ (.tmp 2) (.tmp 6) rfl w.heap.size #[vn] rfl rfl _ _ HA.out (by kernel_rfl) rfl h1.out ?_)
  refine bodyPost_ret (results_cell_row rfl _ _ _ _ _ _ _ rfl (Blk.row HA.out #[vn]) Tryd.underlying32 rfl (by kernel_rfl)) rfl ⟨rfl, HK.out.trans (Keep.row _ _ _) (fun i hi e => by have e2 : i = w.heap.size := e; omega)⟩
end Go.Proofs.YtafpcffhkbeloaaDoor

import Derived.Test.YtafpcffhkbeloaaDoorLoB
import Derived.Test.YtafpcffhkbeloaaDoorRegU
import Derived.Lib.SliceRun
namespace Go.Proofs.YtafpcffhkbeloaaDoor
open Go.RowKit

/-! ## Sources in memory -/
structure Sr where
  kd : Int
  A : Option Addr
  c : Nat
  ns : List Int
def Sr.cells (s : Sr) : List Value := [.int .i64 s.kd, .slice s.A s.ns.length s.c]
def Sr.key (s : Sr) : Int × List Int := (s.kd, s.ns)
def srcells (l : List Sr) : List Value := l.flatMap Sr.cells
theorem srcells_len (l : List Sr) : (srcells l).length = l.length * 2 := flat_len Sr.cells 2 (fun _ => rfl) l
theorem srcells_snoc (l : List Sr) (s : Sr) : srcells (l ++ [s]) = srcells l ++ s.cells := by simp [srcells]
def SrOk (w : World) (Av : Nat → Prop) (s : Sr) : Prop := Sl w Av 1 s.A s.ns.length (icells s.ns)
/-- a list of sources that reads -/
structure Srs (w : World) (Av : Nat → Prop) (X : Option Addr) (l : List Sr) : Prop where
  row : Sl w Av 2 X l.length (srcells l)
  each : ∀ s ∈ l, SrOk w Av s ∧ s.ns.length ≤ 140737488355328
theorem Srs.same {w w' : World} {Av : Nat → Prop} {X : Option Addr} {l : List Sr} (h : Srs w Av X l) (hk : Same w w') : Srs w' Av X l := ⟨h.row.same hk, fun s hs => ⟨(h.each s hs).1.same hk, (h.each s hs).2⟩⟩
theorem Srs.keep {S Av : Nat → Prop} {w w' : World} {X : Option Addr} {l : List Sr} (h : Srs w Av X l) (hk : Keep S w w') (hS : ∀ i, i < w.heap.size → S i → Av i) : Srs w' Av X l := ⟨h.row.keep hk hS, fun s hs => ⟨(h.each s hs).1.keep hk hS, (h.each s hs).2⟩⟩
theorem Srs.wide {Av Av' : Nat → Prop} {w : World} {X : Option Addr} {l : List Sr} (h : Srs w Av X l) (hS : ∀ i, i < w.heap.size → Av' i → Av i) : Srs w Av' X l := ⟨h.row.wide hS, fun s hs => ⟨(h.each s hs).1.wide hS, (h.each s hs).2⟩⟩
theorem Srs.nil (w : World) (Av : Nat → Prop) : Srs w Av none [] := ⟨Sl.nil _ _ _ _, fun s hs => by cases hs⟩
theorem Srs.at_ {w : World} {Av : Nat → Prop} {X : Option Addr} {l : List Sr} (h : Srs w Av X l) {k : Nat} {s : Sr} (hs : l[k]? = some s) : ∃ b off, X = some ⟨b, off, none⟩ ∧ b < w.heap.size ∧ w.rangeAt b (off + k * 2) s.cells ∧
    w.cell? ⟨b, off + k * 2, none⟩ = some (.int .i64 s.kd) ∧ w.cell? ⟨b, off + k * 2 + 1, none⟩ = some (.slice s.A s.ns.length s.c) ∧ SrOk w Av s ∧ s.ns.length ≤ 140737488355328 := by
  have hk := (List.getElem?_eq_some_iff.1 hs).1
  obtain ⟨b, off, e, hb, _, hr⟩ := h.row.at_ (by omega)
  have g := fun j (hj : j < 2) u (hu : s.cells[j]? = some u) => hr (k * 2 + j) u (by rw [show (srcells l)[k * 2 + j]? = (l[k]?).bind (fun a => a.cells[j]?) from flat_get Sr.cells 2 (fun _ => rfl) l k j hj, hs]; exact hu)
  refine ⟨b, off, e, hb, fun j v hv => ?_, g 0 (by omega) _ rfl, g 1 (by omega) _ rfl, h.each s (List.mem_of_getElem? hs)⟩
  have hj : j < 2 := (List.getElem?_eq_some_iff.1 hv).1
  rw [Nat.add_assoc]; exact g j hj v hv
def rightB (k : Int) (n : Nat) : Bool := decide (1 ≤ k) && (decide (k ≤ 9) && decide ((n : Int) ≤ 4096))
set_option maxRecDepth 100000 in
set_option maxHeartbeats 4000000 in
theorem right_any (w : World) (s : Sr) : Calls Tryd.prog 17 #[.agg s.cells.toArray] w fun e w' => e = .returned (.bool (rightB s.kd s.ns.length)) ∧ Same w w' := by
  obtain ⟨kd, A, c, ns⟩ := s
  have hk : Same w (w.alloc (.cells #[.int .i64 kd, .slice A ns.length c] 40)) := (Keep.refl _ _).alloc _
  have HK := hid hk
  simp only [Sr.cells, rightB]
  by_cases h1 : 1 ≤ kd
  · by_cases h2 : kd ≤ 9
    · have d1 : decide (1 ≤ kd) = true := by simp [h1]
      have d2 : decide (kd ≤ 9) = true := by simp [h2]
      rw [d1, d2]
      by_cases h3 : (ns.length : Int) ≤ 4096
      all_goals
        go_enter Tryd.func17, Tryd.ntmps17
        go_wp2_with fail
        go_ret
        exact ⟨by simp [h3] <;> omega, HK.out⟩
    · have d1 : decide (1 ≤ kd) = true := by simp [h1]
      have d2 : decide (kd ≤ 9) = false := by simp; omega
      rw [d1, d2]
      go_enter Tryd.func17, Tryd.ntmps17
      go_wp2_with fail
      go_ret
      exact ⟨rfl, HK.out⟩
  · have d1 : decide (1 ≤ kd) = false := by simp; omega
    rw [d1]
    go_enter Tryd.func17, Tryd.ntmps17
    go_wp2_with fail
    go_ret
    exact ⟨rfl, HK.out⟩

/-! ### Small -/
def sumTo (l : List Sr) : Nat → Nat
  | 0 => 0
  | k + 1 => sumTo l k + (match l[k]? with | some s => s.ns.length + 1 | none => 0)
theorem sumTo_succ {l : List Sr} {k : Nat} {s : Sr} (h : l[k]? = some s) : sumTo l (k + 1) = sumTo l k + (s.ns.length + 1) := by rw [sumTo, h]
theorem sumTo_mono (l : List Sr) {a b : Nat} (h : a ≤ b) : sumTo l a ≤ sumTo l b := by
  induction b with
  | zero => obtain rfl : a = 0 := by omega
            exact Nat.le_refl _
  | succ b ih =>
    by_cases h1 : a = b + 1
    · subst h1; exact Nat.le_refl _
    · have := ih (by omega); rw [sumTo]; omega
def smallB (l : List Sr) : Bool := decide (sumTo l l.length ≤ 300) && decide (l.length ≤ 70)
set_option maxRecDepth 100000 in
set_option maxHeartbeats 4000000 in
theorem small_any (w : World) (Av : Nat → Prop) (X : Option Addr) (cx : Nat) (l : List Sr) (hl : Srs w Av X l) (hn : l.length ≤ maxLen) :
    Calls Tryd.prog 10 #[.slice X l.length cx] w fun e w' => e = .returned (.bool (smallB l)) ∧ w' = w := by
  have HL := hid hl
  unfold maxLen at hn
  clear hl
  go_enter Tryd.func10, Tryd.ntmps10
  go_wp2_with fail
  go_loopw [3, 4] (fun n i wr => ∃ k : Nat, k ≤ l.length ∧ i = .int .i64 k ∧ n = .int .i64 (sumTo l k : Nat) ∧ sumTo l k ≤ 300 ∧ wr = w) (fun _ i _ => l.length - (RowKit.intOf i).toNat)
  case atStart => exact ⟨0, by omega, rfl, rfl, by simp [sumTo], rfl⟩
  case round =>
    obtain ⟨k, hk, rfl, rfl, h3, rfl⟩ := hrel
    by_cases hlt : k < l.length
    · obtain ⟨s, hs⟩ := get_some hlt
      have hk1 : (k : Int) < (l.length : Int) := by omega
      obtain ⟨b1, o1, rfl, _, _, q0, q1, _, hb47⟩ := HL.out.at_ hs
      have HSN := hid (sumTo_succ hs)
      have HMO := hid (sumTo_mono l (show k + 1 ≤ l.length from hlt))
      clear hs
      generalize hS : sumTo l k = S0 at *
      clear hS
      generalize hL : s.ns.length = L0 at *
      by_cases hb : (300 : Int) < (S0 : Int) + (L0 : Int) + 1
      · have HR := hid (show smallB l = false from by
          rw [smallB, show decide (sumTo l l.length ≤ 300) = false from by simp; have := HMO.out; have := HSN.out; omega]; rfl)
        go_wp2_with fail
        go_ret
        exact ⟨by rw [HR.out]; rfl, rfl⟩
      · have hb : (S0 : Int) + (L0 : Int) + 1 ≤ 300 := by omega
        go_wp2_with fail
        go_roundw
        case rel => first | exact ⟨k + 1, by omega, by go_num, congrArg (Value.int .i64) (by rw [HSN.out]; omega), by rw [HSN.out]; omega, rfl⟩ | exact ⟨k + 1, by omega, by go_num, congrArg (Value.int .i64) (by rw [HSN.out]; omega), by rw [HSN.out]; omega, trivial⟩
        case measure => simp [RowKit.intOf]; omega
    · obtain rfl : k = l.length := by omega
      have HR := hid (show smallB l = decide ((l.length : Int) ≤ 70) from by
        rw [smallB, show decide (sumTo l l.length ≤ 300) = true from by simp [h3], Bool.true_and]
        by_cases h : l.length ≤ 70
        · simp [h]; omega
        · simp [h]; omega)
      clear h3
      go_wp2_with fail
      go_ret
      exact ⟨by rw [HR.out]; rfl, rfl⟩

/-! ### SameSources -/
def keys (l : List Sr) : List (Int × List Int) := l.map Sr.key
theorem keys_len (l : List Sr) : (keys l).length = l.length := by simp [keys]
theorem keys_at {l : List Sr} {k : Nat} {s : Sr} (h : l[k]? = some s) : (keys l)[k]? = some s.key := by simp [keys, h]
set_option maxRecDepth 100000 in
set_option maxHeartbeats 8000000 in
theorem samesrc_any (w : World) (Av Bv : Nat → Prop) (A B : Option Addr) (ca cb : Nat) (a b : List Sr) (ha : Srs w Av A a) (hb : Srs w Bv B b) (hn : a.length ≤ 1000000) (_hm : b.length ≤ 1000000) (ha2 : ∀ s ∈ a, s.ns.length ≤ 1000000) (hb2 : ∀ s ∈ b, s.ns.length ≤ 1000000) :
    Calls Tryd.prog 40 #[.slice A a.length ca, .slice B b.length cb] w fun e w' => e = .returned (.bool (decide (keys a = keys b))) ∧ Same w w' := by
  have HA := hid ha
  have HB := hid hb
  have HA2 := hid ha2
  have HB2 := hid hb2
  clear ha hb ha2 hb2
  by_cases hab : (a.length : Int) = (b.length : Int)
  · have hne : ((a.length : Int) != (b.length : Int)) = false := by simp [hab]
    have hab2 : a.length = b.length := by omega
    have HAB := hid hab2
    clear hab hab2
    go_enter Tryd.func40, Tryd.ntmps40
    go_wp2_with fail
    go_loopw [5] (fun i wr => ∃ k : Nat, k ≤ a.length ∧ i = .int .i64 k ∧ Hid ((keys a).take k = (keys b).take k) ∧ Hid (Same w wr)) (fun i _ => a.length - (RowKit.intOf i).toNat)
    case atStart => exact ⟨0, by omega, rfl, hid (by simp), hid (Keep.refl _ _)⟩
    case round =>
      obtain ⟨k, hk, rfl, HP, HI⟩ := hrel
      by_cases hlt : k < a.length
      · obtain ⟨x, hx⟩ := get_some hlt
        obtain ⟨y, hy⟩ := get_some (show k < b.length from by have := HAB.out; omega)
        have hk1 : (k : Int) < (a.length : Int) := by omega
        have hk2 : (k : Int) < (b.length : Int) := by have := HAB.out; omega
        obtain ⟨b1, o1, rfl, _, _, q0, q1, hxo, _⟩ := (HA.out.same HI.out).at_ hx
        obtain ⟨b2, o2, rfl, _, _, p0, p1, hyo, _⟩ := (HB.out.same HI.out).at_ hy
        have HS4 := hid (fun W (hk : Same wr W) => (show W.cell? ⟨b1, o1 + k * 2, none⟩ = some (.int .i64 x.kd) ∧ W.cell? ⟨b1, o1 + k * 2 + 1, none⟩ = some (.slice x.A x.ns.length x.c) ∧ W.cell? ⟨b2, o2 + k * 2, none⟩ = some (.int .i64 y.kd) ∧ W.cell? ⟨b2, o2 + k * 2 + 1, none⟩ = some (.slice y.A y.ns.length y.c) from
          ⟨by rw [hk.cell (lt_cell q0) (fun f => f)]; exact q0, by rw [hk.cell (lt_cell q1) (fun f => f)]; exact q1, by rw [hk.cell (lt_cell p0) (fun f => f)]; exact p0, by rw [hk.cell (lt_cell p1) (fun f => f)]; exact p1⟩))
        have HSM := hid (fun W (hk : Same wr W) => same07_any W Av Bv x.A y.A x.c y.c x.ns y.ns (hxo.same hk) (hyo.same hk) (HA2.out x (List.mem_of_getElem? hx)) (HB2.out y (List.mem_of_getElem? hy)))
        have HKX := hid (keys_at hx)
        have HKY := hid (keys_at hy)
        clear hx hy q0 q1 p0 p1 hxo hyo
        by_cases hxy : x.kd = y.kd
        · have hq : (x.kd != y.kd) = false := by simp [hxy]
          by_cases hns : x.ns = y.ns
          · have hd : decide (x.ns = y.ns) = true := by simp [hns]
            rw [hd] at HSM
            have HNX := hid (show (keys a).take (k + 1) = (keys b).take (k + 1) from by rw [take_snoc' HKX.out, take_snoc' HKY.out, HP.out, Sr.key, Sr.key, hxy, hns])
            clear hxy hns hd
            go_upto_region 6 with fail
            refine wp_region_held_drew (S := fun W => W.cell? ⟨b1, o1 + k * 2, none⟩ = some (.int .i64 x.kd) ∧ W.cell? ⟨b1, o1 + k * 2 + 1, none⟩ = some (.slice x.A x.ns.length x.c) ∧ W.cell? ⟨b2, o2 + k * 2, none⟩ = some (.int .i64 y.kd) ∧ W.cell? ⟨b2, o2 + k * 2 + 1, none⟩ = some (.slice y.A y.ns.length y.c)) (by kernel_rfl) (HS4.out _ (Keep.refl _ _).drew) (fun hHeld => ?_)
            refine takeO (i := 0) (v := ?_) (by kernel_rfl) (by kernel_rfl) (by kernel_rfl) (fun c a d v w h => by cases d <;> exact h) (oi := ?_) ?_ ?_ (by assumption) ?_
            rotate_left 2
            · (simp only [List.getElem?_toArray, List.getElem?_cons_zero]; rfl)
            · (refine Or.inl ⟨by rfl, ?_⟩; intro w hSw; (try dsimp only at hSw); go_simp; try with_reducible rfl)
            try simp only [Act.put, List.setIfInBounds_toArray, List.set_cons_zero, List.set_cons_succ]
            refine takeO (i := 1) (v := ?_) (by kernel_rfl) (by kernel_rfl) (by kernel_rfl) (fun c a d v w h => by cases d <;> exact h) (oi := ?_) ?_ ?_ (by assumption) ?_
            rotate_left 2
            · (simp only [List.getElem?_toArray, List.getElem?_cons_succ, List.getElem?_cons_zero]; rfl)
            · (refine Or.inl ⟨by rfl, ?_⟩; intro w hSw; (try dsimp only at hSw); go_simp; try with_reducible rfl)
            try simp only [Act.put, List.setIfInBounds_toArray, List.set_cons_zero, List.set_cons_succ]
            refine takeO (i := 2) (v := ?_) (by kernel_rfl) (by kernel_rfl) (by kernel_rfl) (fun c a d v w h => by cases d <;> exact h) (oi := ?_) ?_ ?_ (by assumption) ?_
            rotate_left 2
            · (simp only [List.getElem?_toArray, List.getElem?_cons_succ, List.getElem?_cons_zero]; rfl)
            · (refine Or.inl ⟨by rfl, ?_⟩; intro w hSw; (try dsimp only at hSw); go_simp; try with_reducible rfl)
            try simp only [Act.put, List.setIfInBounds_toArray, List.set_cons_zero, List.set_cons_succ]
            refine takeO (i := 3) (v := ?_) (by kernel_rfl) (by kernel_rfl) (by kernel_rfl) (fun c a d v w h => by cases d <;> exact h) (oi := ?_) ?_ ?_ (by assumption) ?_
            rotate_left 2
            · (simp only [List.getElem?_toArray, List.getElem?_cons_succ, List.getElem?_cons_zero]; rfl)
            · (refine Or.inl ⟨by rfl, ?_⟩; intro w hSw; (try dsimp only at hSw); go_simp; try with_reducible rfl)
            try simp only [Act.put, List.setIfInBounds_toArray, List.set_cons_zero, List.set_cons_succ]
            refine takeO (i := 4) (v := ?_) (by kernel_rfl) (by kernel_rfl) (by kernel_rfl) (fun c a d v w h => by cases d <;> exact h) (oi := ?_) ?_ ?_ (by assumption) ?_
            rotate_left 2
            · (simp only [List.getElem?_toArray, List.getElem?_cons_succ, List.getElem?_cons_zero]; rfl)
            · (refine Or.inl ⟨by rfl, ?_⟩; intro w hSw; (try dsimp only at hSw); go_simp; try with_reducible rfl)
            try simp only [Act.put, List.setIfInBounds_toArray, List.set_cons_zero, List.set_cons_succ]
            refine takeO (i := 5) (v := ?_) (by kernel_rfl) (by kernel_rfl) (by kernel_rfl) (fun c a d v w h => by cases d <;> exact h) (oi := ?_) ?_ ?_ (by assumption) ?_
            rotate_left 2
            · (simp only [List.getElem?_toArray, List.getElem?_cons_succ, List.getElem?_cons_zero]; rfl)
            · (refine Or.inl ⟨by rfl, ?_⟩; intro w hSw; (try dsimp only at hSw); go_simp; try with_reducible rfl)
            try simp only [Act.put, List.setIfInBounds_toArray, List.set_cons_zero, List.set_cons_succ]
            refine takeO (i := 6) (v := ?_) (by kernel_rfl) (by kernel_rfl) (by kernel_rfl) (fun c a d v w h => by cases d <;> exact h) (oi := ?_) ?_ ?_ (by assumption) ?_
            rotate_left 2
            · (simp only [List.getElem?_toArray, List.getElem?_cons_succ, List.getElem?_cons_zero]; rfl)
            · (refine Or.inl ⟨by rfl, ?_⟩; intro w hSw; (try dsimp only at hSw); go_simp; try with_reducible rfl)
            try simp only [Act.put, List.setIfInBounds_toArray, List.set_cons_zero, List.set_cons_succ]
            refine takeO (i := 7) (v := ?_) (by kernel_rfl) (by kernel_rfl) (by kernel_rfl) (fun c a d v w h => by cases d <;> exact h) (oi := ?_) ?_ ?_ (by assumption) ?_
            rotate_left 2
            · (simp only [List.getElem?_toArray, List.getElem?_cons_succ, List.getElem?_cons_zero]; rfl)
            · (refine Or.inl ⟨by rfl, ?_⟩; intro w hSw; (try dsimp only at hSw); go_simp; try with_reducible rfl)
            try simp only [Act.put, List.setIfInBounds_toArray, List.set_cons_zero, List.set_cons_succ]
            refine takeO (i := 8) (v := ?_) (by kernel_rfl) (by kernel_rfl) (by kernel_rfl) (fun c a d v w h => by cases d <;> exact h) (oi := ?_) ?_ ?_ (by assumption) ?_
            rotate_left 2
            · (simp only [List.getElem?_toArray, List.getElem?_cons_succ, List.getElem?_cons_zero]; rfl)
            · (refine Or.inl ⟨by rfl, ?_⟩; intro w hSw; (try dsimp only at hSw); go_simp; try with_reducible rfl)
            try simp only [Act.put, List.setIfInBounds_toArray, List.set_cons_zero, List.set_cons_succ]
            refine takeO (i := 9) (v := ?_) (by kernel_rfl) (by kernel_rfl) (by kernel_rfl) (fun c a d v w h => by cases d <;> exact h) (oi := ?_) ?_ ?_ (by assumption) ?_
            rotate_left 2
            · (simp only [List.getElem?_toArray, List.getElem?_cons_succ, List.getElem?_cons_zero]; rfl)
            · (refine Or.inl ⟨by rfl, ?_⟩; intro w hSw; (try dsimp only at hSw); go_simp; try with_reducible rfl)
            try simp only [Act.put, List.setIfInBounds_toArray, List.set_cons_zero, List.set_cons_succ]
            refine takeO (i := 10) (v := ?_) (by kernel_rfl) (by kernel_rfl) (by kernel_rfl) (fun c a d v w h => by cases d <;> exact h) (oi := ?_) ?_ ?_ (by assumption) ?_
            rotate_left 2
            · (simp only [List.getElem?_toArray, List.getElem?_cons_succ, List.getElem?_cons_zero]; rfl)
            · (refine Or.inl ⟨by rfl, ?_⟩; intro w hSw; (try dsimp only at hSw); go_simp; try with_reducible rfl)
            try simp only [Act.put, List.setIfInBounds_toArray, List.set_cons_zero, List.set_cons_succ]
            refine takeO (i := 11) (v := ?_) (by kernel_rfl) (by kernel_rfl) (by kernel_rfl) (fun c a d v w h => by cases d <;> exact h) (oi := ?_) ?_ ?_ (by assumption) ?_
            rotate_left 2
            · (simp only [List.getElem?_toArray, List.getElem?_cons_succ, List.getElem?_cons_zero]; rfl)
            · (refine Or.inl ⟨by rfl, ?_⟩; intro w hSw; (try dsimp only at hSw); go_simp; try with_reducible rfl)
            try simp only [Act.put, List.setIfInBounds_toArray, List.set_cons_zero, List.set_cons_succ]
            refine takeO (i := 12) (v := ?_) (by kernel_rfl) (by kernel_rfl) (by kernel_rfl) (fun c a d v w h => by cases d <;> exact h) (oi := ?_) ?_ ?_ (by assumption) ?_
            rotate_left 2
            · (simp only [List.getElem?_toArray, List.getElem?_cons_succ, List.getElem?_cons_zero]; rfl)
            · (refine Or.inl ⟨by rfl, ?_⟩; intro w hSw; (try dsimp only at hSw); go_simp; try with_reducible rfl)
            try simp only [Act.put, List.setIfInBounds_toArray, List.set_cons_zero, List.set_cons_succ]
            refine takeO (i := 13) (v := ?_) (by kernel_rfl) (by kernel_rfl) (by kernel_rfl) (fun c a d v w h => by cases d <;> exact h) (oi := ?_) ?_ ?_ (by assumption) ?_
            rotate_left 2
            · (simp only [List.getElem?_toArray, List.getElem?_cons_succ, List.getElem?_cons_zero]; rfl)
            · (refine Or.inl ⟨by rfl, ?_⟩; intro w hSw; (try dsimp only at hSw); go_simp; try with_reducible rfl)
            try simp only [Act.put, List.setIfInBounds_toArray, List.set_cons_zero, List.set_cons_succ]
            refine takeO (i := 14) (v := ?_) (by kernel_rfl) (by kernel_rfl) (by kernel_rfl) (fun c a d v w h => by cases d <;> exact h) (oi := ?_) ?_ ?_ (by assumption) ?_
            rotate_left 2
            · (simp only [List.getElem?_toArray, List.getElem?_cons_succ, List.getElem?_cons_zero]; rfl)
            · (refine Or.inl ⟨by rfl, ?_⟩; intro w hSw; (try dsimp only at hSw); go_simp; try with_reducible rfl)
            try simp only [Act.put, List.setIfInBounds_toArray, List.set_cons_zero, List.set_cons_succ]
            refine takeO (i := 15) (v := ?_) (by kernel_rfl) (by kernel_rfl) (by kernel_rfl) (fun c a d v w h => by cases d <;> exact h) (oi := ?_) ?_ ?_ (by assumption) ?_
            rotate_left 2
            · (simp only [List.getElem?_toArray, List.getElem?_cons_succ, List.getElem?_cons_zero]; rfl)
            · (refine Or.inl ⟨by rfl, ?_⟩; intro w hSw; (try dsimp only at hSw); go_simp; try with_reducible rfl)
            try simp only [Act.put, List.setIfInBounds_toArray, List.set_cons_zero, List.set_cons_succ]
            refine takeO (i := 16) (v := ?_) (by kernel_rfl) (by kernel_rfl) (by kernel_rfl) (fun c a d v w h => by cases d <;> exact h) (oi := ?_) ?_ ?_ (by assumption) ?_
            rotate_left 2
            · (simp only [List.getElem?_toArray, List.getElem?_cons_succ, List.getElem?_cons_zero]; rfl)
            · (refine Or.inl ⟨by rfl, ?_⟩; intro w hSw; (try dsimp only at hSw); go_simp; try with_reducible rfl)
            try simp only [Act.put, List.setIfInBounds_toArray, List.set_cons_zero, List.set_cons_succ]
            refine takeO (i := 17) (v := ?_) (by kernel_rfl) (by kernel_rfl) (by kernel_rfl) (fun c a d v w h => by cases d <;> exact h) (oi := ?_) ?_ ?_ (by assumption) ?_
            rotate_left 2
            · (simp only [List.getElem?_toArray, List.getElem?_cons_succ, List.getElem?_cons_zero]; rfl)
            · (refine Or.inl ⟨by rfl, ?_⟩; intro w hSw; (try dsimp only at hSw); go_simp; try with_reducible rfl)
            try simp only [Act.put, List.setIfInBounds_toArray, List.set_cons_zero, List.set_cons_succ]
            refine takeO (i := 18) (v := ?_) (by kernel_rfl) (by kernel_rfl) (by kernel_rfl) (fun c a d v w h => by cases d <;> exact h) (oi := ?_) ?_ ?_ (by assumption) ?_
            rotate_left 2
            · (simp only [List.getElem?_toArray, List.getElem?_cons_succ, List.getElem?_cons_zero]; rfl)
            · (refine Or.inl ⟨by rfl, ?_⟩; intro w hSw; (try dsimp only at hSw); go_simp; try with_reducible rfl)
            try simp only [Act.put, List.setIfInBounds_toArray, List.set_cons_zero, List.set_cons_succ]
            refine takeO (i := 19) (v := ?_) (by kernel_rfl) (by kernel_rfl) (by kernel_rfl) (fun c a d v w h => by cases d <;> exact h) (oi := ?_) ?_ ?_ (by assumption) ?_
            rotate_left 2
            · (simp only [List.getElem?_toArray, List.getElem?_cons_succ, List.getElem?_cons_zero]; rfl)
            · (refine Or.inl ⟨by rfl, ?_⟩; intro w hSw; (try dsimp only at hSw); go_simp; try with_reducible rfl)
            try simp only [Act.put, List.setIfInBounds_toArray, List.set_cons_zero, List.set_cons_succ]
            refine takeO (i := 20) (v := ?_) (by kernel_rfl) (by kernel_rfl) (by kernel_rfl) (fun c a d v w h => by cases d <;> exact h) (oi := ?_) ?_ ?_ (by assumption) ?_
            rotate_left 2
            · (simp only [List.getElem?_toArray, List.getElem?_cons_succ, List.getElem?_cons_zero]; rfl)
            · (refine Or.inl ⟨by rfl, ?_⟩; intro w hSw; (try dsimp only at hSw); go_simp; try with_reducible rfl)
            try simp only [Act.put, List.setIfInBounds_toArray, List.set_cons_zero, List.set_cons_succ]
            refine takeO (i := 21) (v := ?_) (by kernel_rfl) (by kernel_rfl) (by kernel_rfl) (fun c a d v w h => by cases d <;> exact h) (oi := ?_) ?_ ?_ (by assumption) ?_
            rotate_left 2
            · (simp only [List.getElem?_toArray, List.getElem?_cons_succ, List.getElem?_cons_zero]; rfl)
            · (refine Or.inl ⟨by rfl, ?_⟩; intro w hSw; (try dsimp only at hSw); go_simp; try with_reducible rfl)
            try simp only [Act.put, List.setIfInBounds_toArray, List.set_cons_zero, List.set_cons_succ]
            refine wpAnyH_ready (rs := [22]) (by kernel_rfl) (by simp) ?_
            refine AllReadyH.cons rfl (fun K hK => ?_) AllReadyH.nil
            go_simp
            refine (HSM.out _ (Keep.refl _ _).drew).mono ?_
            rintro e w5 ⟨rfl, hk5⟩
            have hk5b : Same wr w5 := (Keep.refl _ _).drew.then hk5
            have HK5 := hid (HI.out.then hk5b)
            refine hK.out _ _ (HS4.out _ hk5b) (fun hHeld1 => ?_)
            clear hK K
            try simp only [Act.put, List.setIfInBounds_toArray, List.set_cons_zero, List.set_cons_succ]
            refine takeO (i := 23) (v := ?_) (by kernel_rfl) (by kernel_rfl) (by kernel_rfl) (fun c a d v w h => by cases d <;> exact h) (oi := ?_) ?_ ?_ (by assumption) ?_
            rotate_left 2
            · (simp only [List.getElem?_toArray, List.getElem?_cons_succ, List.getElem?_cons_zero]; rfl)
            · (refine Or.inl ⟨by rfl, ?_⟩; intro w hSw; (try dsimp only at hSw); go_simp; try with_reducible rfl)
            try simp only [Act.put, List.setIfInBounds_toArray, List.set_cons_zero, List.set_cons_succ]
            refine takeO (i := 24) (v := ?_) (by kernel_rfl) (by kernel_rfl) (by kernel_rfl) (fun c a d v w h => by cases d <;> exact h) (oi := ?_) ?_ ?_ (by assumption) ?_
            rotate_left 2
            · (simp only [List.getElem?_toArray, List.getElem?_cons_succ, List.getElem?_cons_zero]; rfl)
            · (refine Or.inl ⟨by rfl, ?_⟩; intro w hSw; (try dsimp only at hSw); go_simp; try with_reducible rfl)
            try simp only [Act.put, List.setIfInBounds_toArray, List.set_cons_zero, List.set_cons_succ]
            refine wpAnyH_done (by kernel_rfl) ?_ _
            go_wp2_with fail
            go_roundw
            case rel => exact ⟨k + 1, by omega, by go_num, HNX, HK5⟩
            case measure => simp [RowKit.intOf]; omega
          · have hd : decide (x.ns = y.ns) = false := by simp [hns]
            rw [hd] at HSM
            have HNX := hid (show keys a ≠ keys b from by
              intro e
              have h1 := HKX.out
              rw [e, HKY.out] at h1
              injection h1 with h1
              rw [Sr.key, Sr.key] at h1
              injection h1 with _ h1
              exact hns h1.symm)
            clear hxy hns hd
            go_upto_region 6 with fail
            refine wp_region_held_drew (S := fun W => W.cell? ⟨b1, o1 + k * 2, none⟩ = some (.int .i64 x.kd) ∧ W.cell? ⟨b1, o1 + k * 2 + 1, none⟩ = some (.slice x.A x.ns.length x.c) ∧ W.cell? ⟨b2, o2 + k * 2, none⟩ = some (.int .i64 y.kd) ∧ W.cell? ⟨b2, o2 + k * 2 + 1, none⟩ = some (.slice y.A y.ns.length y.c)) (by kernel_rfl) (HS4.out _ (Keep.refl _ _).drew) (fun hHeld => ?_)
            refine takeO (i := 0) (v := ?_) (by kernel_rfl) (by kernel_rfl) (by kernel_rfl) (fun c a d v w h => by cases d <;> exact h) (oi := ?_) ?_ ?_ (by assumption) ?_
            rotate_left 2
            · (simp only [List.getElem?_toArray, List.getElem?_cons_zero]; rfl)
            · (refine Or.inl ⟨by rfl, ?_⟩; intro w hSw; (try dsimp only at hSw); go_simp; try with_reducible rfl)
            try simp only [Act.put, List.setIfInBounds_toArray, List.set_cons_zero, List.set_cons_succ]
            refine takeO (i := 1) (v := ?_) (by kernel_rfl) (by kernel_rfl) (by kernel_rfl) (fun c a d v w h => by cases d <;> exact h) (oi := ?_) ?_ ?_ (by assumption) ?_
            rotate_left 2
            · (simp only [List.getElem?_toArray, List.getElem?_cons_succ, List.getElem?_cons_zero]; rfl)
            · (refine Or.inl ⟨by rfl, ?_⟩; intro w hSw; (try dsimp only at hSw); go_simp; try with_reducible rfl)
            try simp only [Act.put, List.setIfInBounds_toArray, List.set_cons_zero, List.set_cons_succ]
            refine takeO (i := 2) (v := ?_) (by kernel_rfl) (by kernel_rfl) (by kernel_rfl) (fun c a d v w h => by cases d <;> exact h) (oi := ?_) ?_ ?_ (by assumption) ?_
            rotate_left 2
            · (simp only [List.getElem?_toArray, List.getElem?_cons_succ, List.getElem?_cons_zero]; rfl)
            · (refine Or.inl ⟨by rfl, ?_⟩; intro w hSw; (try dsimp only at hSw); go_simp; try with_reducible rfl)
            try simp only [Act.put, List.setIfInBounds_toArray, List.set_cons_zero, List.set_cons_succ]
            refine takeO (i := 3) (v := ?_) (by kernel_rfl) (by kernel_rfl) (by kernel_rfl) (fun c a d v w h => by cases d <;> exact h) (oi := ?_) ?_ ?_ (by assumption) ?_
            rotate_left 2
            · (simp only [List.getElem?_toArray, List.getElem?_cons_succ, List.getElem?_cons_zero]; rfl)
            · (refine Or.inl ⟨by rfl, ?_⟩; intro w hSw; (try dsimp only at hSw); go_simp; try with_reducible rfl)
            try simp only [Act.put, List.setIfInBounds_toArray, List.set_cons_zero, List.set_cons_succ]
            refine takeO (i := 4) (v := ?_) (by kernel_rfl) (by kernel_rfl) (by kernel_rfl) (fun c a d v w h => by cases d <;> exact h) (oi := ?_) ?_ ?_ (by assumption) ?_
            rotate_left 2
            · (simp only [List.getElem?_toArray, List.getElem?_cons_succ, List.getElem?_cons_zero]; rfl)
            · (refine Or.inl ⟨by rfl, ?_⟩; intro w hSw; (try dsimp only at hSw); go_simp; try with_reducible rfl)
            try simp only [Act.put, List.setIfInBounds_toArray, List.set_cons_zero, List.set_cons_succ]
            refine takeO (i := 5) (v := ?_) (by kernel_rfl) (by kernel_rfl) (by kernel_rfl) (fun c a d v w h => by cases d <;> exact h) (oi := ?_) ?_ ?_ (by assumption) ?_
            rotate_left 2
            · (simp only [List.getElem?_toArray, List.getElem?_cons_succ, List.getElem?_cons_zero]; rfl)
            · (refine Or.inl ⟨by rfl, ?_⟩; intro w hSw; (try dsimp only at hSw); go_simp; try with_reducible rfl)
            try simp only [Act.put, List.setIfInBounds_toArray, List.set_cons_zero, List.set_cons_succ]
            refine takeO (i := 6) (v := ?_) (by kernel_rfl) (by kernel_rfl) (by kernel_rfl) (fun c a d v w h => by cases d <;> exact h) (oi := ?_) ?_ ?_ (by assumption) ?_
            rotate_left 2
            · (simp only [List.getElem?_toArray, List.getElem?_cons_succ, List.getElem?_cons_zero]; rfl)
            · (refine Or.inl ⟨by rfl, ?_⟩; intro w hSw; (try dsimp only at hSw); go_simp; try with_reducible rfl)
            try simp only [Act.put, List.setIfInBounds_toArray, List.set_cons_zero, List.set_cons_succ]
            refine takeO (i := 7) (v := ?_) (by kernel_rfl) (by kernel_rfl) (by kernel_rfl) (fun c a d v w h => by cases d <;> exact h) (oi := ?_) ?_ ?_ (by assumption) ?_
            rotate_left 2
            · (simp only [List.getElem?_toArray, List.getElem?_cons_succ, List.getElem?_cons_zero]; rfl)
            · (refine Or.inl ⟨by rfl, ?_⟩; intro w hSw; (try dsimp only at hSw); go_simp; try with_reducible rfl)
            try simp only [Act.put, List.setIfInBounds_toArray, List.set_cons_zero, List.set_cons_succ]
            refine takeO (i := 8) (v := ?_) (by kernel_rfl) (by kernel_rfl) (by kernel_rfl) (fun c a d v w h => by cases d <;> exact h) (oi := ?_) ?_ ?_ (by assumption) ?_
            rotate_left 2
            · (simp only [List.getElem?_toArray, List.getElem?_cons_succ, List.getElem?_cons_zero]; rfl)
            · (refine Or.inl ⟨by rfl, ?_⟩; intro w hSw; (try dsimp only at hSw); go_simp; try with_reducible rfl)
            try simp only [Act.put, List.setIfInBounds_toArray, List.set_cons_zero, List.set_cons_succ]
            refine takeO (i := 9) (v := ?_) (by kernel_rfl) (by kernel_rfl) (by kernel_rfl) (fun c a d v w h => by cases d <;> exact h) (oi := ?_) ?_ ?_ (by assumption) ?_
            rotate_left 2
            · (simp only [List.getElem?_toArray, List.getElem?_cons_succ, List.getElem?_cons_zero]; rfl)
            · (refine Or.inl ⟨by rfl, ?_⟩; intro w hSw; (try dsimp only at hSw); go_simp; try with_reducible rfl)
            try simp only [Act.put, List.setIfInBounds_toArray, List.set_cons_zero, List.set_cons_succ]
            refine takeO (i := 10) (v := ?_) (by kernel_rfl) (by kernel_rfl) (by kernel_rfl) (fun c a d v w h => by cases d <;> exact h) (oi := ?_) ?_ ?_ (by assumption) ?_
            rotate_left 2
            · (simp only [List.getElem?_toArray, List.getElem?_cons_succ, List.getElem?_cons_zero]; rfl)
            · (refine Or.inl ⟨by rfl, ?_⟩; intro w hSw; (try dsimp only at hSw); go_simp; try with_reducible rfl)
            try simp only [Act.put, List.setIfInBounds_toArray, List.set_cons_zero, List.set_cons_succ]
            refine takeO (i := 11) (v := ?_) (by kernel_rfl) (by kernel_rfl) (by kernel_rfl) (fun c a d v w h => by cases d <;> exact h) (oi := ?_) ?_ ?_ (by assumption) ?_
            rotate_left 2
            · (simp only [List.getElem?_toArray, List.getElem?_cons_succ, List.getElem?_cons_zero]; rfl)
            · (refine Or.inl ⟨by rfl, ?_⟩; intro w hSw; (try dsimp only at hSw); go_simp; try with_reducible rfl)
            try simp only [Act.put, List.setIfInBounds_toArray, List.set_cons_zero, List.set_cons_succ]
            refine takeO (i := 12) (v := ?_) (by kernel_rfl) (by kernel_rfl) (by kernel_rfl) (fun c a d v w h => by cases d <;> exact h) (oi := ?_) ?_ ?_ (by assumption) ?_
            rotate_left 2
            · (simp only [List.getElem?_toArray, List.getElem?_cons_succ, List.getElem?_cons_zero]; rfl)
            · (refine Or.inl ⟨by rfl, ?_⟩; intro w hSw; (try dsimp only at hSw); go_simp; try with_reducible rfl)
            try simp only [Act.put, List.setIfInBounds_toArray, List.set_cons_zero, List.set_cons_succ]
            refine takeO (i := 13) (v := ?_) (by kernel_rfl) (by kernel_rfl) (by kernel_rfl) (fun c a d v w h => by cases d <;> exact h) (oi := ?_) ?_ ?_ (by assumption) ?_
            rotate_left 2
            · (simp only [List.getElem?_toArray, List.getElem?_cons_succ, List.getElem?_cons_zero]; rfl)
            · (refine Or.inl ⟨by rfl, ?_⟩; intro w hSw; (try dsimp only at hSw); go_simp; try with_reducible rfl)
            try simp only [Act.put, List.setIfInBounds_toArray, List.set_cons_zero, List.set_cons_succ]
            refine takeO (i := 14) (v := ?_) (by kernel_rfl) (by kernel_rfl) (by kernel_rfl) (fun c a d v w h => by cases d <;> exact h) (oi := ?_) ?_ ?_ (by assumption) ?_
            rotate_left 2
            · (simp only [List.getElem?_toArray, List.getElem?_cons_succ, List.getElem?_cons_zero]; rfl)
            · (refine Or.inl ⟨by rfl, ?_⟩; intro w hSw; (try dsimp only at hSw); go_simp; try with_reducible rfl)
            try simp only [Act.put, List.setIfInBounds_toArray, List.set_cons_zero, List.set_cons_succ]
            refine takeO (i := 15) (v := ?_) (by kernel_rfl) (by kernel_rfl) (by kernel_rfl) (fun c a d v w h => by cases d <;> exact h) (oi := ?_) ?_ ?_ (by assumption) ?_
            rotate_left 2
            · (simp only [List.getElem?_toArray, List.getElem?_cons_succ, List.getElem?_cons_zero]; rfl)
            · (refine Or.inl ⟨by rfl, ?_⟩; intro w hSw; (try dsimp only at hSw); go_simp; try with_reducible rfl)
            try simp only [Act.put, List.setIfInBounds_toArray, List.set_cons_zero, List.set_cons_succ]
            refine takeO (i := 16) (v := ?_) (by kernel_rfl) (by kernel_rfl) (by kernel_rfl) (fun c a d v w h => by cases d <;> exact h) (oi := ?_) ?_ ?_ (by assumption) ?_
            rotate_left 2
            · (simp only [List.getElem?_toArray, List.getElem?_cons_succ, List.getElem?_cons_zero]; rfl)
            · (refine Or.inl ⟨by rfl, ?_⟩; intro w hSw; (try dsimp only at hSw); go_simp; try with_reducible rfl)
            try simp only [Act.put, List.setIfInBounds_toArray, List.set_cons_zero, List.set_cons_succ]
            refine takeO (i := 17) (v := ?_) (by kernel_rfl) (by kernel_rfl) (by kernel_rfl) (fun c a d v w h => by cases d <;> exact h) (oi := ?_) ?_ ?_ (by assumption) ?_
            rotate_left 2
            · (simp only [List.getElem?_toArray, List.getElem?_cons_succ, List.getElem?_cons_zero]; rfl)
            · (refine Or.inl ⟨by rfl, ?_⟩; intro w hSw; (try dsimp only at hSw); go_simp; try with_reducible rfl)
            try simp only [Act.put, List.setIfInBounds_toArray, List.set_cons_zero, List.set_cons_succ]
            refine takeO (i := 18) (v := ?_) (by kernel_rfl) (by kernel_rfl) (by kernel_rfl) (fun c a d v w h => by cases d <;> exact h) (oi := ?_) ?_ ?_ (by assumption) ?_
            rotate_left 2
            · (simp only [List.getElem?_toArray, List.getElem?_cons_succ, List.getElem?_cons_zero]; rfl)
            · (refine Or.inl ⟨by rfl, ?_⟩; intro w hSw; (try dsimp only at hSw); go_simp; try with_reducible rfl)
            try simp only [Act.put, List.setIfInBounds_toArray, List.set_cons_zero, List.set_cons_succ]
            refine takeO (i := 19) (v := ?_) (by kernel_rfl) (by kernel_rfl) (by kernel_rfl) (fun c a d v w h => by cases d <;> exact h) (oi := ?_) ?_ ?_ (by assumption) ?_
            rotate_left 2
            · (simp only [List.getElem?_toArray, List.getElem?_cons_succ, List.getElem?_cons_zero]; rfl)
            · (refine Or.inl ⟨by rfl, ?_⟩; intro w hSw; (try dsimp only at hSw); go_simp; try with_reducible rfl)
            try simp only [Act.put, List.setIfInBounds_toArray, List.set_cons_zero, List.set_cons_succ]
            refine takeO (i := 20) (v := ?_) (by kernel_rfl) (by kernel_rfl) (by kernel_rfl) (fun c a d v w h => by cases d <;> exact h) (oi := ?_) ?_ ?_ (by assumption) ?_
            rotate_left 2
            · (simp only [List.getElem?_toArray, List.getElem?_cons_succ, List.getElem?_cons_zero]; rfl)
            · (refine Or.inl ⟨by rfl, ?_⟩; intro w hSw; (try dsimp only at hSw); go_simp; try with_reducible rfl)
            try simp only [Act.put, List.setIfInBounds_toArray, List.set_cons_zero, List.set_cons_succ]
            refine takeO (i := 21) (v := ?_) (by kernel_rfl) (by kernel_rfl) (by kernel_rfl) (fun c a d v w h => by cases d <;> exact h) (oi := ?_) ?_ ?_ (by assumption) ?_
            rotate_left 2
            · (simp only [List.getElem?_toArray, List.getElem?_cons_succ, List.getElem?_cons_zero]; rfl)
            · (refine Or.inl ⟨by rfl, ?_⟩; intro w hSw; (try dsimp only at hSw); go_simp; try with_reducible rfl)
            try simp only [Act.put, List.setIfInBounds_toArray, List.set_cons_zero, List.set_cons_succ]
            refine wpAnyH_ready (rs := [22]) (by kernel_rfl) (by simp) ?_
            refine AllReadyH.cons rfl (fun K hK => ?_) AllReadyH.nil
            go_simp
            refine (HSM.out _ (Keep.refl _ _).drew).mono ?_
            rintro e w5 ⟨rfl, hk5⟩
            have hk5b : Same wr w5 := (Keep.refl _ _).drew.then hk5
            have HK5 := hid (HI.out.then hk5b)
            refine hK.out _ _ (HS4.out _ hk5b) (fun hHeld1 => ?_)
            clear hK K
            try simp only [Act.put, List.setIfInBounds_toArray, List.set_cons_zero, List.set_cons_succ]
            refine takeO (i := 23) (v := ?_) (by kernel_rfl) (by kernel_rfl) (by kernel_rfl) (fun c a d v w h => by cases d <;> exact h) (oi := ?_) ?_ ?_ (by assumption) ?_
            rotate_left 2
            · (simp only [List.getElem?_toArray, List.getElem?_cons_succ, List.getElem?_cons_zero]; rfl)
            · (refine Or.inl ⟨by rfl, ?_⟩; intro w hSw; (try dsimp only at hSw); go_simp; try with_reducible rfl)
            try simp only [Act.put, List.setIfInBounds_toArray, List.set_cons_zero, List.set_cons_succ]
            refine takeO (i := 24) (v := ?_) (by kernel_rfl) (by kernel_rfl) (by kernel_rfl) (fun c a d v w h => by cases d <;> exact h) (oi := ?_) ?_ ?_ (by assumption) ?_
            rotate_left 2
            · (simp only [List.getElem?_toArray, List.getElem?_cons_succ, List.getElem?_cons_zero]; rfl)
            · (refine Or.inl ⟨by rfl, ?_⟩; intro w hSw; (try dsimp only at hSw); go_simp; try with_reducible rfl)
            try simp only [Act.put, List.setIfInBounds_toArray, List.set_cons_zero, List.set_cons_succ]
            refine wpAnyH_done (by kernel_rfl) ?_ _
            go_wp2_with fail
            go_ret
            exact ⟨by rw [show decide (keys a = keys b) = false from by simp; exact HNX.out]; rfl, HK5.out⟩
        · have hq : (x.kd != y.kd) = true := by simp [hxy]
          have HNX := hid (show keys a ≠ keys b from by
            intro e
            have h1 := HKX.out
            rw [e, HKY.out] at h1
            injection h1 with h1
            rw [Sr.key, Sr.key] at h1
            injection h1 with h1 _
            exact hxy h1.symm)
          clear hxy
          go_upto_region 6 with fail
          refine wp_region_held_drew (S := fun W => W.cell? ⟨b1, o1 + k * 2, none⟩ = some (.int .i64 x.kd) ∧ W.cell? ⟨b1, o1 + k * 2 + 1, none⟩ = some (.slice x.A x.ns.length x.c) ∧ W.cell? ⟨b2, o2 + k * 2, none⟩ = some (.int .i64 y.kd) ∧ W.cell? ⟨b2, o2 + k * 2 + 1, none⟩ = some (.slice y.A y.ns.length y.c)) (by kernel_rfl) (HS4.out _ (Keep.refl _ _).drew) (fun hHeld => ?_)
          refine takeO (i := 0) (v := ?_) (by kernel_rfl) (by kernel_rfl) (by kernel_rfl) (fun c a d v w h => by cases d <;> exact h) (oi := ?_) ?_ ?_ (by assumption) ?_
          rotate_left 2
          · (simp only [List.getElem?_toArray, List.getElem?_cons_zero]; rfl)
          · (refine Or.inl ⟨by rfl, ?_⟩; intro w hSw; (try dsimp only at hSw); go_simp; try with_reducible rfl)
          try simp only [Act.put, List.setIfInBounds_toArray, List.set_cons_zero, List.set_cons_succ]
          refine takeO (i := 1) (v := ?_) (by kernel_rfl) (by kernel_rfl) (by kernel_rfl) (fun c a d v w h => by cases d <;> exact h) (oi := ?_) ?_ ?_ (by assumption) ?_
          rotate_left 2
          · (simp only [List.getElem?_toArray, List.getElem?_cons_succ, List.getElem?_cons_zero]; rfl)
          · (refine Or.inl ⟨by rfl, ?_⟩; intro w hSw; (try dsimp only at hSw); go_simp; try with_reducible rfl)
          try simp only [Act.put, List.setIfInBounds_toArray, List.set_cons_zero, List.set_cons_succ]
          refine takeO (i := 2) (v := ?_) (by kernel_rfl) (by kernel_rfl) (by kernel_rfl) (fun c a d v w h => by cases d <;> exact h) (oi := ?_) ?_ ?_ (by assumption) ?_
          rotate_left 2
          · (simp only [List.getElem?_toArray, List.getElem?_cons_succ, List.getElem?_cons_zero]; rfl)
          · (refine Or.inl ⟨by rfl, ?_⟩; intro w hSw; (try dsimp only at hSw); go_simp; try with_reducible rfl)
          try simp only [Act.put, List.setIfInBounds_toArray, List.set_cons_zero, List.set_cons_succ]
          refine takeO (i := 3) (v := ?_) (by kernel_rfl) (by kernel_rfl) (by kernel_rfl) (fun c a d v w h => by cases d <;> exact h) (oi := ?_) ?_ ?_ (by assumption) ?_
          rotate_left 2
          · (simp only [List.getElem?_toArray, List.getElem?_cons_succ, List.getElem?_cons_zero]; rfl)
          · (refine Or.inl ⟨by rfl, ?_⟩; intro w hSw; (try dsimp only at hSw); go_simp; try with_reducible rfl)
          try simp only [Act.put, List.setIfInBounds_toArray, List.set_cons_zero, List.set_cons_succ]
          refine takeO (i := 4) (v := ?_) (by kernel_rfl) (by kernel_rfl) (by kernel_rfl) (fun c a d v w h => by cases d <;> exact h) (oi := ?_) ?_ ?_ (by assumption) ?_
          rotate_left 2
          · (simp only [List.getElem?_toArray, List.getElem?_cons_succ, List.getElem?_cons_zero]; rfl)
          · (refine Or.inl ⟨by rfl, ?_⟩; intro w hSw; (try dsimp only at hSw); go_simp; try with_reducible rfl)
          try simp only [Act.put, List.setIfInBounds_toArray, List.set_cons_zero, List.set_cons_succ]
          refine takeO (i := 5) (v := ?_) (by kernel_rfl) (by kernel_rfl) (by kernel_rfl) (fun c a d v w h => by cases d <;> exact h) (oi := ?_) ?_ ?_ (by assumption) ?_
          rotate_left 2
          · (simp only [List.getElem?_toArray, List.getElem?_cons_succ, List.getElem?_cons_zero]; rfl)
          · (refine Or.inl ⟨by rfl, ?_⟩; intro w hSw; (try dsimp only at hSw); go_simp; try with_reducible rfl)
          try simp only [Act.put, List.setIfInBounds_toArray, List.set_cons_zero, List.set_cons_succ]
          refine takeO (i := 6) (v := ?_) (by kernel_rfl) (by kernel_rfl) (by kernel_rfl) (fun c a d v w h => by cases d <;> exact h) (oi := ?_) ?_ ?_ (by assumption) ?_
          rotate_left 2
          · (simp only [List.getElem?_toArray, List.getElem?_cons_succ, List.getElem?_cons_zero]; rfl)
          · (refine Or.inl ⟨by rfl, ?_⟩; intro w hSw; (try dsimp only at hSw); go_simp; try with_reducible rfl)
          try simp only [Act.put, List.setIfInBounds_toArray, List.set_cons_zero, List.set_cons_succ]
          refine takeO (i := 7) (v := ?_) (by kernel_rfl) (by kernel_rfl) (by kernel_rfl) (fun c a d v w h => by cases d <;> exact h) (oi := ?_) ?_ ?_ (by assumption) ?_
          rotate_left 2
          · (simp only [List.getElem?_toArray, List.getElem?_cons_succ, List.getElem?_cons_zero]; rfl)
          · (refine Or.inl ⟨by rfl, ?_⟩; intro w hSw; (try dsimp only at hSw); go_simp; try with_reducible rfl)
          try simp only [Act.put, List.setIfInBounds_toArray, List.set_cons_zero, List.set_cons_succ]
          refine takeO (i := 8) (v := ?_) (by kernel_rfl) (by kernel_rfl) (by kernel_rfl) (fun c a d v w h => by cases d <;> exact h) (oi := ?_) ?_ ?_ (by assumption) ?_
          rotate_left 2
          · (simp only [List.getElem?_toArray, List.getElem?_cons_succ, List.getElem?_cons_zero]; rfl)
          · (refine Or.inl ⟨by rfl, ?_⟩; intro w hSw; (try dsimp only at hSw); go_simp; try with_reducible rfl)
          try simp only [Act.put, List.setIfInBounds_toArray, List.set_cons_zero, List.set_cons_succ]
          refine takeO (i := 9) (v := ?_) (by kernel_rfl) (by kernel_rfl) (by kernel_rfl) (fun c a d v w h => by cases d <;> exact h) (oi := ?_) ?_ ?_ (by assumption) ?_
          rotate_left 2
          · (simp only [List.getElem?_toArray, List.getElem?_cons_succ, List.getElem?_cons_zero]; rfl)
          · (refine Or.inl ⟨by rfl, ?_⟩; intro w hSw; (try dsimp only at hSw); go_simp; try with_reducible rfl)
          try simp only [Act.put, List.setIfInBounds_toArray, List.set_cons_zero, List.set_cons_succ]
          refine takeO (i := 10) (v := ?_) (by kernel_rfl) (by kernel_rfl) (by kernel_rfl) (fun c a d v w h => by cases d <;> exact h) (oi := ?_) ?_ ?_ (by assumption) ?_
          rotate_left 2
          · (simp only [List.getElem?_toArray, List.getElem?_cons_succ, List.getElem?_cons_zero]; rfl)
          · (refine Or.inl ⟨by rfl, ?_⟩; intro w hSw; (try dsimp only at hSw); go_simp; try with_reducible rfl)
          try simp only [Act.put, List.setIfInBounds_toArray, List.set_cons_zero, List.set_cons_succ]
          refine takeO (i := 11) (v := ?_) (by kernel_rfl) (by kernel_rfl) (by kernel_rfl) (fun c a d v w h => by cases d <;> exact h) (oi := ?_) ?_ ?_ (by assumption) ?_
          rotate_left 2
          · (simp only [List.getElem?_toArray, List.getElem?_cons_succ, List.getElem?_cons_zero]; rfl)
          · (refine Or.inl ⟨by rfl, ?_⟩; intro w hSw; (try dsimp only at hSw); go_simp; try with_reducible rfl)
          try simp only [Act.put, List.setIfInBounds_toArray, List.set_cons_zero, List.set_cons_succ]
          refine takeO (i := 12) (v := undef) (by kernel_rfl) (by kernel_rfl) (by kernel_rfl) (fun c a d v w h => by cases d <;> exact h) (oi := ?_) ?_ ?_ (by assumption) ?_
          rotate_left 1
          · (simp only [List.getElem?_toArray, List.getElem?_cons_succ, List.getElem?_cons_zero]; rfl)
          · exact Or.inr ⟨by rfl, rfl⟩
          try simp only [Act.put, List.setIfInBounds_toArray, List.set_cons_zero, List.set_cons_succ]
          refine takeO (i := 13) (v := undef) (by kernel_rfl) (by kernel_rfl) (by kernel_rfl) (fun c a d v w h => by cases d <;> exact h) (oi := ?_) ?_ ?_ (by assumption) ?_
          rotate_left 1
          · (simp only [List.getElem?_toArray, List.getElem?_cons_succ, List.getElem?_cons_zero]; rfl)
          · exact Or.inr ⟨by rfl, rfl⟩
          try simp only [Act.put, List.setIfInBounds_toArray, List.set_cons_zero, List.set_cons_succ]
          refine takeO (i := 14) (v := undef) (by kernel_rfl) (by kernel_rfl) (by kernel_rfl) (fun c a d v w h => by cases d <;> exact h) (oi := ?_) ?_ ?_ (by assumption) ?_
          rotate_left 1
          · (simp only [List.getElem?_toArray, List.getElem?_cons_succ, List.getElem?_cons_zero]; rfl)
          · exact Or.inr ⟨by rfl, rfl⟩
          try simp only [Act.put, List.setIfInBounds_toArray, List.set_cons_zero, List.set_cons_succ]
          refine takeO (i := 15) (v := undef) (by kernel_rfl) (by kernel_rfl) (by kernel_rfl) (fun c a d v w h => by cases d <;> exact h) (oi := ?_) ?_ ?_ (by assumption) ?_
          rotate_left 1
          · (simp only [List.getElem?_toArray, List.getElem?_cons_succ, List.getElem?_cons_zero]; rfl)
          · exact Or.inr ⟨by rfl, rfl⟩
          try simp only [Act.put, List.setIfInBounds_toArray, List.set_cons_zero, List.set_cons_succ]
          refine takeO (i := 16) (v := undef) (by kernel_rfl) (by kernel_rfl) (by kernel_rfl) (fun c a d v w h => by cases d <;> exact h) (oi := ?_) ?_ ?_ (by assumption) ?_
          rotate_left 1
          · (simp only [List.getElem?_toArray, List.getElem?_cons_succ, List.getElem?_cons_zero]; rfl)
          · exact Or.inr ⟨by rfl, rfl⟩
          try simp only [Act.put, List.setIfInBounds_toArray, List.set_cons_zero, List.set_cons_succ]
          refine takeO (i := 17) (v := undef) (by kernel_rfl) (by kernel_rfl) (by kernel_rfl) (fun c a d v w h => by cases d <;> exact h) (oi := ?_) ?_ ?_ (by assumption) ?_
          rotate_left 1
          · (simp only [List.getElem?_toArray, List.getElem?_cons_succ, List.getElem?_cons_zero]; rfl)
          · exact Or.inr ⟨by rfl, rfl⟩
          try simp only [Act.put, List.setIfInBounds_toArray, List.set_cons_zero, List.set_cons_succ]
          refine takeO (i := 18) (v := undef) (by kernel_rfl) (by kernel_rfl) (by kernel_rfl) (fun c a d v w h => by cases d <;> exact h) (oi := ?_) ?_ ?_ (by assumption) ?_
          rotate_left 1
          · (simp only [List.getElem?_toArray, List.getElem?_cons_succ, List.getElem?_cons_zero]; rfl)
          · exact Or.inr ⟨by rfl, rfl⟩
          try simp only [Act.put, List.setIfInBounds_toArray, List.set_cons_zero, List.set_cons_succ]
          refine takeO (i := 19) (v := undef) (by kernel_rfl) (by kernel_rfl) (by kernel_rfl) (fun c a d v w h => by cases d <;> exact h) (oi := ?_) ?_ ?_ (by assumption) ?_
          rotate_left 1
          · (simp only [List.getElem?_toArray, List.getElem?_cons_succ, List.getElem?_cons_zero]; rfl)
          · exact Or.inr ⟨by rfl, rfl⟩
          try simp only [Act.put, List.setIfInBounds_toArray, List.set_cons_zero, List.set_cons_succ]
          refine takeO (i := 20) (v := undef) (by kernel_rfl) (by kernel_rfl) (by kernel_rfl) (fun c a d v w h => by cases d <;> exact h) (oi := ?_) ?_ ?_ (by assumption) ?_
          rotate_left 1
          · (simp only [List.getElem?_toArray, List.getElem?_cons_succ, List.getElem?_cons_zero]; rfl)
          · exact Or.inr ⟨by rfl, rfl⟩
          try simp only [Act.put, List.setIfInBounds_toArray, List.set_cons_zero, List.set_cons_succ]
          refine takeO (i := 21) (v := undef) (by kernel_rfl) (by kernel_rfl) (by kernel_rfl) (fun c a d v w h => by cases d <;> exact h) (oi := ?_) ?_ ?_ (by assumption) ?_
          rotate_left 1
          · (simp only [List.getElem?_toArray, List.getElem?_cons_succ, List.getElem?_cons_zero]; rfl)
          · exact Or.inr ⟨by rfl, rfl⟩
          try simp only [Act.put, List.setIfInBounds_toArray, List.set_cons_zero, List.set_cons_succ]
          refine takeO (i := 22) (v := undef) (by kernel_rfl) (by kernel_rfl) (by kernel_rfl) (fun c a d v w h => by cases d <;> exact h) (oi := ?_) ?_ ?_ (by assumption) ?_
          rotate_left 1
          · (simp only [List.getElem?_toArray, List.getElem?_cons_succ, List.getElem?_cons_zero]; rfl)
          · exact Or.inr ⟨by rfl, rfl⟩
          try simp only [Act.put, List.setIfInBounds_toArray, List.set_cons_zero, List.set_cons_succ]
          refine takeO (i := 23) (v := undef) (by kernel_rfl) (by kernel_rfl) (by kernel_rfl) (fun c a d v w h => by cases d <;> exact h) (oi := ?_) ?_ ?_ (by assumption) ?_
          rotate_left 1
          · (simp only [List.getElem?_toArray, List.getElem?_cons_succ, List.getElem?_cons_zero]; rfl)
          · exact Or.inr ⟨by rfl, rfl⟩
          try simp only [Act.put, List.setIfInBounds_toArray, List.set_cons_zero, List.set_cons_succ]
          refine takeO (i := 24) (v := ?_) (by kernel_rfl) (by kernel_rfl) (by kernel_rfl) (fun c a d v w h => by cases d <;> exact h) (oi := ?_) ?_ ?_ (by assumption) ?_
          rotate_left 2
          · (simp only [List.getElem?_toArray, List.getElem?_cons_succ, List.getElem?_cons_zero]; rfl)
          · (refine Or.inl ⟨by rfl, ?_⟩; intro w hSw; (try dsimp only at hSw); go_simp; try with_reducible rfl)
          try simp only [Act.put, List.setIfInBounds_toArray, List.set_cons_zero, List.set_cons_succ]
          refine wpAnyH_done (by kernel_rfl) ?_ _
          go_wp2_with fail
          go_ret
          exact ⟨by rw [show decide (keys a = keys b) = false from by simp; exact HNX.out]; rfl, HI.out.drew⟩
      · obtain rfl : k = a.length := by omega
        have hP := HP.out
        rw [List.take_of_length_le (by rw [keys_len]; omega), List.take_of_length_le (by rw [keys_len]; have := HAB.out; omega)] at hP
        have HP2 := hid hP
        clear hP
        go_wp2_with fail
        go_ret
        exact ⟨by rw [show decide (keys a = keys b) = true from by simp; exact HP2.out]; rfl, HI.out⟩
  · have hne : ((a.length : Int) != (b.length : Int)) = true := by simp; omega
    have HAB := hid (show keys a ≠ keys b from by
      intro e
      have := congrArg List.length e
      rw [keys_len, keys_len] at this
      omega)
    clear hab
    go_enter Tryd.func40, Tryd.ntmps40
    go_wp2_with fail
    go_ret
    exact ⟨by rw [show decide (keys a = keys b) = false from by simp; exact HAB.out]; rfl, Keep.refl _ _⟩
end Go.Proofs.YtafpcffhkbeloaaDoor

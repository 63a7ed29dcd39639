import Derived.Test.YtnejacmmbfeneaaDoorGen2
import Derived.Test.YtnejacmmbfeneaaDoorEnd
import Derived.PlainAid
namespace Go.Proofs.YtnejacmmbfeneaaDoor
open Go.RowKit Go.PlainAid

/-! ## Configurations -/
structure E3 where
  a : Int
  b : Int
  c : Int
deriving DecidableEq
def E3.cells (e : E3) : List Value := [.int .i64 e.a, .int .i64 e.b, .int .i64 e.c]
structure PL where
  code : ByteArray
  urg : Int
  K : Option Addr
  cc : Nat
  kinds : List Int
def PL.cells (p : PL) : List Value := [.string p.code, .int .i64 p.urg, .slice p.K p.kinds.length p.cc]
structure CF where
  cen : Int
  D : Option Addr
  cD : Nat
  dis : List Int
  E : Option Addr
  cE : Nat
  edg : List E3
  U : Option Addr
  cU : Nat
  uni : List E3
  P : Option Addr
  cP : Nat
  pla : List PL
  h0 : Int
  h1 : Int
  h2 : Int
  h3 : Int
  h4 : Int
  h5 : Int
  h6 : Int
  h7 : Int
  h8 : Int
  h9 : Int
def CF.cells (c : CF) : List Value := [.int .i64 c.cen, .slice c.D c.dis.length c.cD, .slice c.E c.edg.length c.cE, .slice c.U c.uni.length c.cU, .slice c.P c.pla.length c.cP,
  .int .i64 c.h0, .int .i64 c.h1, .int .i64 c.h2, .int .i64 c.h3, .int .i64 c.h4, .int .i64 c.h5, .int .i64 c.h6, .int .i64 c.h7, .int .i64 c.h8, .int .i64 c.h9]
def icellsC (l : List Int) : List Value := l.map (.int .i64)
def e3cells (l : List E3) : List Value := l.flatMap E3.cells
def plcells (l : List PL) : List Value := l.flatMap PL.cells
structure CM (w : World) (c : CF) : Prop where
  dis : Sl w (fun _ => False) 1 c.D c.dis.length (icellsC c.dis)
  edg : Sl w (fun _ => False) 3 c.E c.edg.length (e3cells c.edg)
  uni : Sl w (fun _ => False) 3 c.U c.uni.length (e3cells c.uni)
  pla : Sl w (fun _ => False) 3 c.P c.pla.length (plcells c.pla)
  kinds : ∀ p ∈ c.pla, Sl w (fun _ => False) 1 p.K p.kinds.length (icellsC p.kinds) ∧ p.kinds.length ≤ maxLen ∧ p.code.size ≤ maxLen
  lD : c.dis.length ≤ maxLen
  lE : c.edg.length ≤ maxLen
  lU : c.uni.length ≤ maxLen
  lP : c.pla.length ≤ maxLen
  capP : c.pla.length ≤ c.cP
theorem CM.same {w w' : World} {c : CF} (h : CM w c) (hk : Same w w') : CM w' c :=
  ⟨h.dis.same hk, h.edg.same hk, h.uni.same hk, h.pla.same hk, fun p hp => ⟨(h.kinds p hp).1.same hk, (h.kinds p hp).2⟩, h.lD, h.lE, h.lU, h.lP, h.capP⟩
def inB (i n : Int) : Bool := decide (0 ≤ i) && decide (i < n)
def kindB (k : Int) : Bool := decide (1 ≤ k) && decide (k ≤ 4)
def chB (s : ByteArray) (k : Nat) : Bool := decide (33 ≤ bt s k) && decide (bt s k ≤ 126)
def codeB (s : ByteArray) : Bool := decide (1 ≤ s.size) && decide (s.size ≤ 40) && (List.range s.size).all (chB s)
def edgeB (n : Int) (e : E3) : Bool := inB e.a n && inB e.b n && (decide (1 ≤ e.c) && decide (e.c ≤ 1048576) || e.c == 4611686018427387904)
def unitB (cen n : Int) (u : E3) : Bool := kindB u.a && inB u.b cen && inB u.c n
def planB (p : PL) : Bool := p.kinds.all kindB && codeB p.code && (decide (1 ≤ p.urg) && decide (p.urg ≤ 5)) && (decide (1 ≤ p.kinds.length) && decide (p.kinds.length ≤ 8))
def diffB (p q : PL) : Bool := !(q.code.toList == p.code.toList && q.urg == p.urg)
def upB (l : List PL) (k : Nat) : Bool := match l[k]? with
  | some p => planB p && (l.take k).all (diffB p)
  | none => true
def plansB (l : List PL) : Bool := decide (l.length ≤ 64) && (List.range l.length).all (upB l)
def rngB (lo hi x : Int) : Bool := decide (lo ≤ x) && decide (x ≤ hi)
def parsL (c : CF) : List (Int × Int × Int) := [(1, 1048576, c.h0), (1, 1048576, c.h1), (1, 1048576, c.h2), (1, 1048576, c.h3), (1, 1048576, c.h4), (1, 1048576, c.h5), (0, 1099511627776, c.h6), (0, 1099511627776, c.h7), (0, 256, c.h8), (1, 4096, c.h9)]
def parB (c : CF) : Bool := (parsL c).all (fun x => rngB x.1 x.2.1 x.2.2)
def edgesB (c : CF) : Bool := c.edg.all (edgeB c.dis.length) && decide (c.edg.length ≤ 16384)
def unitsB (c : CF) : Bool := c.uni.all (unitB c.cen c.dis.length) && decide (c.uni.length ≤ 256)
def vnum (c : CF) : Int :=
  if (decide (1 ≤ c.cen) && decide (c.cen ≤ 9)) = false then 1
  else if (decide (1 ≤ c.dis.length) && decide (c.dis.length ≤ 4096)) = false then 2
  else if c.dis.all (fun d => inB d c.cen) = false then 3
  else if edgesB c = false then 4
  else if unitsB c = false then 5
  else if plansB c.pla = false then 6
  else if parB c = false then 7
  else 0
theorem range_take (n k : Nat) (h : k ≤ n) : (List.range n).take k = List.range k := by
  rw [List.take_range, Nat.min_eq_left h]
theorem range_no {p : Nat → Bool} {n k : Nat} (h : k < n) (hp : p k = false) : (List.range n).all p = false :=
  all_no (l := List.range n) (k := k) (a := k) (by simp [h]) hp
theorem range_snoc {p : Nat → Bool} (k : Nat) : (List.range (k + 1)).all p = ((List.range k).all p && p k) := by
  rw [List.range_succ]; simp
theorem ints_at {w : World} {Av : Nat → Prop} {A : Option Addr} {n : Nat} {l : List Int} (h : Sl w Av 1 A n (icellsC l)) {k : Nat} {a : Int} (ha : l[k]? = some a) : ∃ b off, A = some ⟨b, off, none⟩ ∧ b < w.heap.size ∧
    w.cell? ⟨b, off + k, none⟩ = some (.int .i64 a) := by
  have hk := (List.getElem?_eq_some_iff.1 ha).1
  have hl : l.length = n := by have := h.len; simpa [icellsC] using this
  obtain ⟨b, off, e, hb, _, hr⟩ := h.at_ (by omega)
  exact ⟨b, off, e, hb, hr k _ (by simp [icellsC, ha])⟩
theorem e3_at {w : World} {Av : Nat → Prop} {A : Option Addr} {n : Nat} {l : List E3} (h : Sl w Av 3 A n (e3cells l)) {k : Nat} {a : E3} (ha : l[k]? = some a) : ∃ b off, A = some ⟨b, off, none⟩ ∧ b < w.heap.size ∧
    w.cell? ⟨b, off + k * 3, none⟩ = some (.int .i64 a.a) ∧ w.cell? ⟨b, off + k * 3 + 1, none⟩ = some (.int .i64 a.b) ∧ w.cell? ⟨b, off + k * 3 + 2, none⟩ = some (.int .i64 a.c) := by
  have hk := (List.getElem?_eq_some_iff.1 ha).1
  have hl : l.length = n := by
    have := h.len
    rw [show (e3cells l).length = l.length * 3 from flat_len E3.cells 3 (fun _ => rfl) l] at this
    omega
  obtain ⟨b, off, e, hb, _, hr⟩ := h.at_ (by omega)
  have g := fun j (hj : j < 3) u (hu : a.cells[j]? = some u) => hr (k * 3 + j) u (by rw [show (e3cells l)[k * 3 + j]? = (l[k]?).bind (fun a => a.cells[j]?) from flat_get E3.cells 3 (fun _ => rfl) l k j hj, ha]; exact hu)
  exact ⟨b, off, e, hb, g 0 (by omega) _ rfl, g 1 (by omega) _ rfl, g 2 (by omega) _ rfl⟩
theorem pl_at {w : World} {Av : Nat → Prop} {A : Option Addr} {n : Nat} {l : List PL} (h : Sl w Av 3 A n (plcells l)) {k : Nat} {a : PL} (ha : l[k]? = some a) : ∃ b off, A = some ⟨b, off, none⟩ ∧ b < w.heap.size ∧
    w.cell? ⟨b, off + k * 3, none⟩ = some (.string a.code) ∧ w.cell? ⟨b, off + k * 3 + 1, none⟩ = some (.int .i64 a.urg) ∧ w.cell? ⟨b, off + k * 3 + 2, none⟩ = some (.slice a.K a.kinds.length a.cc) := by
  have hk := (List.getElem?_eq_some_iff.1 ha).1
  have hl : l.length = n := by
    have := h.len
    rw [show (plcells l).length = l.length * 3 from flat_len PL.cells 3 (fun _ => rfl) l] at this
    omega
  obtain ⟨b, off, e, hb, _, hr⟩ := h.at_ (by omega)
  have g := fun j (hj : j < 3) u (hu : a.cells[j]? = some u) => hr (k * 3 + j) u (by rw [show (plcells l)[k * 3 + j]? = (l[k]?).bind (fun a => a.cells[j]?) from flat_get PL.cells 3 (fun _ => rfl) l k j hj, ha]; exact hu)
  exact ⟨b, off, e, hb, g 0 (by omega) _ rfl, g 1 (by omega) _ rfl, g 2 (by omega) _ rfl⟩
section
variable (w : World)

/-! ## The small functions -/
theorem within_any (x lo hi : Int) : Calls Tryd.prog 27 #[.int .i64 x, .int .i64 lo, .int .i64 hi] w fun e w' => e = .returned (.bool (rngB lo hi x)) ∧ w' = w := by
  by_cases h1 : lo ≤ x
  rotate_left 1
  · go_enter Tryd.func27, Tryd.ntmps27
    go_wp2_with fail
    go_ret
    exact ⟨ret_of (congrArg Value.bool (by simp [rngB] <;> omega)), rfl⟩
  by_cases h2 : x ≤ hi
  rotate_left 1
  · go_enter Tryd.func27, Tryd.ntmps27
    go_wp2_with fail
    go_ret
    exact ⟨ret_of (congrArg Value.bool (by simp [rngB, h1, h2] <;> omega)), rfl⟩
  go_enter Tryd.func27, Tryd.ntmps27
  go_wp2_with fail
  go_ret
  exact ⟨ret_of (congrArg Value.bool (by simp [rngB, h1, h2] <;> omega)), rfl⟩
set_option maxRecDepth 100000 in
theorem edge_any (c : CF) (e : E3) : Calls Tryd.prog 24 #[.agg c.cells.toArray, .agg e.cells.toArray] w fun r w' => r = .returned (.bool (edgeB c.dis.length e)) ∧ Same w w' := by
  obtain ⟨cen, D, cD, dis, E, cE, edg, U, cU, uni, P, cP, pla, h0, h1, h2, h3, h4, h5, h6, h7, h8, h9⟩ := c
  obtain ⟨ea, eb, ec⟩ := e
  simp only [CF.cells, E3.cells]
  by_cases g1 : 0 ≤ ea
  rotate_left 1
  · go_enter Tryd.func24, Tryd.ntmps24
    go_wp2_with fail
    go_ret
    exact ⟨ret_of (congrArg Value.bool (by simp [edgeB, inB] <;> omega)), ((Keep.refl _ w).alloc _).alloc _⟩
  by_cases g2 : ea < (dis.length : Int)
  rotate_left 1
  · go_enter Tryd.func24, Tryd.ntmps24
    go_wp2_with fail
    go_ret
    exact ⟨ret_of (congrArg Value.bool (by simp [edgeB, inB, g1] <;> omega)), ((Keep.refl _ w).alloc _).alloc _⟩
  by_cases g3 : 0 ≤ eb
  rotate_left 1
  · go_enter Tryd.func24, Tryd.ntmps24
    go_wp2_with fail
    go_ret
    exact ⟨ret_of (congrArg Value.bool (by simp [edgeB, inB, g1, g2] <;> omega)), ((Keep.refl _ w).alloc _).alloc _⟩
  by_cases g4 : eb < (dis.length : Int)
  rotate_left 1
  · go_enter Tryd.func24, Tryd.ntmps24
    go_wp2_with fail
    go_ret
    exact ⟨ret_of (congrArg Value.bool (by simp [edgeB, inB, g1, g2, g3] <;> omega)), ((Keep.refl _ w).alloc _).alloc _⟩
  by_cases g5 : 1 ≤ ec
  rotate_left 1
  · have g7 : (ec == 4611686018427387904) = false := by simp; omega
    go_enter Tryd.func24, Tryd.ntmps24
    go_wp2_with fail
    go_ret
    exact ⟨ret_of (congrArg Value.bool (by simp [edgeB, inB, g1, g2, g3, g4, g7] <;> omega)), ((Keep.refl _ w).alloc _).alloc _⟩
  · by_cases g6 : ec ≤ 1048576
    rotate_left 1
    · by_cases g7 : (ec == 4611686018427387904) = true
      · have g8 : ec = 4611686018427387904 := by simpa using g7
        subst g8
        go_enter Tryd.func24, Tryd.ntmps24
        go_wp2_with fail
        go_ret
        exact ⟨ret_of (congrArg Value.bool (by simp [edgeB, inB, g1, g2, g3, g4] <;> omega)), ((Keep.refl _ w).alloc _).alloc _⟩
      · have g8 : (ec == 4611686018427387904) = false := by simpa using g7
        go_enter Tryd.func24, Tryd.ntmps24
        go_wp2_with fail
        go_ret
        exact ⟨ret_of (congrArg Value.bool (by simp [edgeB, inB, g1, g2, g3, g4, g6, g8] <;> omega)), ((Keep.refl _ w).alloc _).alloc _⟩
    · go_enter Tryd.func24, Tryd.ntmps24
      go_wp2_with fail
      go_ret
      exact ⟨ret_of (congrArg Value.bool (by simp [edgeB, inB, g1, g2, g3, g4, g5, g6] <;> omega)), ((Keep.refl _ w).alloc _).alloc _⟩
set_option maxRecDepth 100000 in
theorem unit_any (c : CF) (e : E3) : Calls Tryd.prog 25 #[.agg c.cells.toArray, .agg e.cells.toArray] w fun r w' => r = .returned (.bool (unitB c.cen c.dis.length e)) ∧ Same w w' := by
  obtain ⟨cen, D, cD, dis, E, cE, edg, U, cU, uni, P, cP, pla, h0, h1, h2, h3, h4, h5, h6, h7, h8, h9⟩ := c
  obtain ⟨ea, eb, ec⟩ := e
  simp only [CF.cells, E3.cells]
  by_cases g1 : 1 ≤ ea
  rotate_left 1
  · go_enter Tryd.func25, Tryd.ntmps25
    go_wp2_with fail
    go_ret
    exact ⟨ret_of (congrArg Value.bool (by simp [unitB, kindB, inB] <;> omega)), ((Keep.refl _ w).alloc _).alloc _⟩
  by_cases g2 : ea ≤ 4
  rotate_left 1
  · go_enter Tryd.func25, Tryd.ntmps25
    go_wp2_with fail
    go_ret
    exact ⟨ret_of (congrArg Value.bool (by simp [unitB, kindB, inB, g1] <;> omega)), ((Keep.refl _ w).alloc _).alloc _⟩
  by_cases g3 : 0 ≤ eb
  rotate_left 1
  · go_enter Tryd.func25, Tryd.ntmps25
    go_wp2_with fail
    go_ret
    exact ⟨ret_of (congrArg Value.bool (by simp [unitB, kindB, inB, g1, g2] <;> omega)), ((Keep.refl _ w).alloc _).alloc _⟩
  by_cases g4 : eb < cen
  rotate_left 1
  · go_enter Tryd.func25, Tryd.ntmps25
    go_wp2_with fail
    go_ret
    exact ⟨ret_of (congrArg Value.bool (by simp [unitB, kindB, inB, g1, g2, g3] <;> omega)), ((Keep.refl _ w).alloc _).alloc _⟩
  by_cases g5 : 0 ≤ ec
  rotate_left 1
  · go_enter Tryd.func25, Tryd.ntmps25
    go_wp2_with fail
    go_ret
    exact ⟨ret_of (congrArg Value.bool (by simp [unitB, kindB, inB, g1, g2, g3, g4] <;> omega)), ((Keep.refl _ w).alloc _).alloc _⟩
  by_cases g6 : ec < (dis.length : Int)
  rotate_left 1
  · go_enter Tryd.func25, Tryd.ntmps25
    go_wp2_with fail
    go_ret
    exact ⟨ret_of (congrArg Value.bool (by simp [unitB, kindB, inB, g1, g2, g3, g4, g5, g6] <;> omega)), ((Keep.refl _ w).alloc _).alloc _⟩
  go_enter Tryd.func25, Tryd.ntmps25
  go_wp2_with fail
  go_ret
  exact ⟨ret_of (congrArg Value.bool (by simp [unitB, kindB, inB, g1, g2, g3, g4, g5, g6] <;> omega)), ((Keep.refl _ w).alloc _).alloc _⟩
set_option maxRecDepth 100000 in
theorem Code_any (s : ByteArray) (hsz : s.size ≤ maxLen) : Calls Tryd.prog 38 #[.string s] w fun e w' => e = .returned (.bool (codeB s)) ∧ w' = w := by
  unfold maxLen at hsz
  have hbt := get_bt s
  have HL := hid (show ∀ k, chB s k = (decide (33 ≤ bt s k) && decide (bt s k ≤ 126)) from fun _ => rfl)
  go_enter Tryd.func38, Tryd.ntmps38
  go_wp2_with fail
  go_loopw [3] (fun i wr => ∃ k : Nat, k ≤ s.size ∧ i = .int .i64 k ∧ Hid ((List.range k).all (chB s) = true ∧ wr = w)) (fun i _ => s.size - (RowKit.intOf i).toNat)
  case atStart => exact ⟨0, by omega, rfl, hid ⟨by simp, rfl⟩⟩
  case round =>
    obtain ⟨k, hk, rfl, HI⟩ := hrel
    by_cases hlt : k < s.size
    · have hk1 : (k : Int) < (s.size : Int) := by omega
      have hk2 : (k : Int) + 1 ≤ 9223372036854775807 := by omega
      have hb0 := bt_nonneg s k
      by_cases g1 : bt s k < 33
      · go_wp2_with fail
        go_ret
        exact ⟨ret_of (congrArg Value.bool (by rw [codeB, range_no hlt (by rw [HL.out]; simp; omega)]; simp)), HI.out.2⟩
      · by_cases g2 : 126 < bt s k
        · go_wp2_with fail
          go_ret
          exact ⟨ret_of (congrArg Value.bool (by rw [codeB, range_no hlt (by rw [HL.out]; simp; omega)]; simp)), HI.out.2⟩
        · go_wp2_with fail
          go_roundw
          case rel => exact ⟨k + 1, by omega, by go_num, hid ⟨by rw [range_snoc, HI.out.1, HL.out]; simp; omega, HI.out.2⟩⟩
          case measure => simp [RowKit.intOf]; omega
    · obtain rfl : k = s.size := by omega
      by_cases h1 : 1 ≤ (s.size : Int)
      rotate_left 1
      · go_wp2_with fail
        go_ret
        exact ⟨ret_of (congrArg Value.bool (by rw [codeB, HI.out.1]; simp; omega)), HI.out.2⟩
      · by_cases h2 : (s.size : Int) ≤ 40
        rotate_left 1
        · go_wp2_with fail
          go_ret
          exact ⟨ret_of (congrArg Value.bool (by rw [codeB, HI.out.1]; simp; omega)), HI.out.2⟩
        · go_wp2_with fail
          go_ret
          exact ⟨ret_of (congrArg Value.bool (by rw [codeB, HI.out.1]; simp; omega)), HI.out.2⟩
set_option maxRecDepth 100000 in
theorem numbers_any (c : CF) : Calls Tryd.prog 21 #[.agg c.cells.toArray] w fun e w' => (∃ g, e = .returned (.slice (some ⟨g, 0, none⟩) 10 10) ∧ w.heap.size ≤ g ∧ Blk w' g 2 #[.int .i64 c.h0, .int .i64 c.h1, .int .i64 c.h2, .int .i64 c.h3, .int .i64 c.h4, .int .i64 c.h5, .int .i64 c.h6, .int .i64 c.h7, .int .i64 c.h8, .int .i64 c.h9]) ∧ Same w w' := by
  obtain ⟨cen, D, cD, dis, E, cE, edg, U, cU, uni, P, cP, pla, h0, h1, h2, h3, h4, h5, h6, h7, h8, h9⟩ := c
  simp only [CF.cells]
  go_enter Tryd.func21, Tryd.ntmps21
  go_wp2_with fail
  go_ret
  have h := fun o => Blk.made (w.alloc o) 2 #[.int .i64 h0, .int .i64 h1, .int .i64 h2, .int .i64 h3, .int .i64 h4, .int .i64 h5, .int .i64 h6, .int .i64 h7, .int .i64 h8, .int .i64 h9]
  simp only [World.size_alloc] at h
  exact ⟨⟨_, rfl, by simp, h _⟩, ((Keep.refl _ w).alloc _).alloc _⟩
end
end Go.Proofs.YtnejacmmbfeneaaDoor

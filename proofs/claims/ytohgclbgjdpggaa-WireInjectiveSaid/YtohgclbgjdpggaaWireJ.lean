import Derived.Test.YtohgclbgjdpggaaWireI
namespace Go.Proofs.Ytohgclbgjdpggaa
open Go.RowKit

/-! ## Values in memory -/
structure Tm where
  k : Int
  n : Int
  b : Bool
  s : ByteArray
  A : Option Addr
  m : Nat
  c : Nat
  l : List Int
def Tm.cells (x : Tm) : List Value := [.int .i64 x.k, .int .i64 x.n, .bool x.b, .string x.s, .slice x.A x.m x.c]
def Tm.pt (x : Tm) : Tg := ⟨x.k, x.n, x.b, x.s.data.toList, x.l⟩
structure TmOk (w : World) (Av : Nat → Prop) (x : Tm) : Prop where
  sl : Sl w Av 1 x.A x.m (x.l.map (.int .i64))
theorem TmOk.len {w : World} {Av : Nat → Prop} {x : Tm} (h : TmOk w Av x) : x.l.length = x.m := by have := h.sl.len; simpa using this
theorem TmOk.keep {S Av : Nat → Prop} {w w' : World} {x : Tm} (h : TmOk w Av x) (hk : Keep S w w') (hS : ∀ i, i < w.heap.size → S i → Av i) : TmOk w' Av x := ⟨h.sl.keep hk hS⟩
theorem TmOk.same {Av : Nat → Prop} {w w' : World} {x : Tm} (h : TmOk w Av x) (hk : Same w w') : TmOk w' Av x := ⟨h.sl.same hk⟩
theorem TmOk.wide {Av Av' : Nat → Prop} {w : World} {x : Tm} (h : TmOk w Av x) (hS : ∀ i, i < w.heap.size → Av' i → Av i) : TmOk w Av' x := ⟨h.sl.wide hS⟩
theorem Tm.facts {w1 : World} {g : Nat} {x : Tm} (h : Blk w1 g 33 x.cells.toArray) : w1.cell? ⟨g, 0, none⟩ = some (.int .i64 x.k) ∧ w1.cell? ⟨g, 1, none⟩ = some (.int .i64 x.n) ∧ w1.cell? ⟨g, 2, none⟩ = some (.bool x.b) ∧
    w1.cell? ⟨g, 3, none⟩ = some (.string x.s) ∧ w1.cell? ⟨g, 4, none⟩ = some (.slice x.A x.m x.c) := ⟨h.at_ 0, h.at_ 1, h.at_ 2, h.at_ 3, h.at_ 4⟩

/-- What 'read' leaves. -/
def TPost (w : World) (rb : Nat) (Av : Nat → Prop) (t : Tg) (s : RS) (e : Ending) (w' : World) : Prop :=
  ∃ A n c x, e = .returned (.agg (Tm.cells x).toArray) ∧ x.pt = t ∧ TmOk w' (· < w.heap.size) x ∧ Rd w' rb Av A n c s ∧ Keep (· = rb) w w'
theorem keep6 (w2 : World) (g j : Nat) (u v0 v1 v2 v3 v4 : Value) : Keep (fun i => i = g ∨ i = g + 1) w2 ((((((w2.setCell ⟨g + 1, j, none⟩ u).setCell ⟨g, 0, none⟩ v0).setCell ⟨g, 1, none⟩ v1).setCell ⟨g, 2, none⟩ v2).setCell ⟨g, 3, none⟩ v3).setCell ⟨g, 4, none⟩ v4) :=
  ((((((Keep.refl _ w2).setCell (p := ⟨g + 1, j, none⟩) (fun _ => .inr rfl) _).setCell (p := ⟨g, 0, none⟩) (fun _ => .inl rfl) _).setCell (p := ⟨g, 1, none⟩) (fun _ => .inl rfl) _).setCell (p := ⟨g, 2, none⟩) (fun _ => .inl rfl) _).setCell (p := ⟨g, 3, none⟩) (fun _ => .inl rfl) _).setCell (p := ⟨g, 4, none⟩) (fun _ => .inl rfl) _

section
variable (w : World) (rb : Nat) (Av : Nat → Prop) (A : Option Addr) (n c : Nat)

set_option maxHeartbeats 2000000 in
theorem read0_any (s : RS) (h : Rd w rb Av A n c s) (_hsz : s.rest.length ≤ 1000000000) :
    Calls Try.prog 12 #[.pointer (some ⟨rb, 0, none⟩), .int .i64 0] w (TPost w rb Av (getT 0 s).1 (getT 0 s).2) := by
  have hg : getT 0 s = (⟨0, (rdInt s).1, false, [], []⟩, (rdInt s).2) := by simp [getT]
  rw [hg]
  have hka : Same w ((w.alloc (.cells #[.int .i64 0, .int .i64 0, .bool false, .string ⟨#[]⟩, .slice none 0 0] 33)).alloc (.cells #[.int .i64 0, .int .i64 0, .bool false, .string ⟨#[]⟩, .slice none 0 0] 33)) := ((Keep.refl _ w).alloc _).alloc _
  have HR := hid ((h.wide (Av' := fun i => Av i ∨ i = w.heap.size ∨ i = w.heap.size + 1) (fun i hi hs => by rcases hs with hs | hs; exact hs; omega)).same hka)
  have hrb := h.top.lt
  have HC := hid (rInt_any _ rb (fun i => Av i ∨ i = w.heap.size ∨ i = w.heap.size + 1) A n c s HR.out)
  have HB1 := hid ((Blk.made w 33 #[.int .i64 0, .int .i64 0, .bool false, .string ⟨#[]⟩, .slice none 0 0]).alloc (.cells #[.int .i64 0, .int .i64 0, .bool false, .string ⟨#[]⟩, .slice none 0 0] 33))
  have hb2 := Blk.made (w.alloc (.cells #[.int .i64 0, .int .i64 0, .bool false, .string ⟨#[]⟩, .slice none 0 0] 33)) 33 #[.int .i64 0, .int .i64 0, .bool false, .string ⟨#[]⟩, .slice none 0 0]
  rw [World.size_alloc] at hb2
  have HB2 := hid hb2
  have HK := hid hka
  clear h hg hka hb2
  generalize rdInt s = q at *
  obtain ⟨v, s1⟩ := q
  go_enter Try.func12, Try.ntmps12
  go_wp2_with fail
  refine HC.out.mono ?_
  rintro e w2 ⟨A2, n2, c2, rfl, g1, g2⟩
  have b1 := HB1.out.keep g2 (by omega)
  have b2 := HB2.out.keep g2 (by omega)
  have x0 : w2.cell? ⟨w.heap.size + 1, 0, none⟩ = some (.int .i64 0) := b2.at_ 0
  have x1 : w2.cell? ⟨w.heap.size + 1, 1, none⟩ = some (.int .i64 0) := b2.at_ 1
  have x2 : w2.cell? ⟨w.heap.size + 1, 2, none⟩ = some (.bool false) := b2.at_ 2
  have x3 : w2.cell? ⟨w.heap.size + 1, 3, none⟩ = some (.string ⟨#[]⟩) := b2.at_ 3
  have x4 : w2.cell? ⟨w.heap.size + 1, 4, none⟩ = some (.slice none 0 0) := b2.at_ 4
  have y0 : w2.cell? ⟨w.heap.size, 0, none⟩ = some (.int .i64 0) := b1.at_ 0
  have y1 : w2.cell? ⟨w.heap.size, 1, none⟩ = some (.int .i64 0) := b1.at_ 1
  have y2 : w2.cell? ⟨w.heap.size, 2, none⟩ = some (.bool false) := b1.at_ 2
  have y3 : w2.cell? ⟨w.heap.size, 3, none⟩ = some (.string ⟨#[]⟩) := b1.at_ 3
  have y4 : w2.cell? ⟨w.heap.size, 4, none⟩ = some (.slice none 0 0) := b1.at_ 4
  have f0 := b2.free
  have f1 := b1.free
  have z1 := b2.lt
  have hk9 : ∀ W', Keep (fun i => i = w.heap.size ∨ i = w.heap.size + 1) w2 W' → Rd W' rb Av A2 n2 c2 s1 ∧ Keep (· = rb) w W' := fun W' hk =>
    ⟨(g1.keep hk (fun i _ hs => .inr hs)).wide (fun _ _ h => .inl h), ((HK.out.wide (fun _ _ f => f.elim)).trans g2 (fun _ _ h => h)).trans hk (fun i hi hs => by omega)⟩
  have HK9 := hid hk9
  clear g1 g2 b1 b2 hk9 HC HR
  go_wp2
  refine bodyPost_ret (v := .agg (Tm.cells ⟨0, v, false, ⟨#[]⟩, none, 0, 0, []⟩).toArray) (by simp [results, Try.results12, go_sem, Tm.cells, y0, y1, y2, y3, y4]) rfl ?_
  exact ⟨A2, n2, c2, ⟨0, v, false, ⟨#[]⟩, none, 0, 0, []⟩, rfl, rfl, ⟨Sl.nil _ _ _ _⟩, (HK9.out _ (keep6 _ _ _ _ _ _ _ _ _)).1, (HK9.out _ (keep6 _ _ _ _ _ _ _ _ _)).2⟩

set_option maxHeartbeats 2000000 in
theorem read1_any (s : RS) (h : Rd w rb Av A n c s) (_hsz : s.rest.length ≤ 1000000000) :
    Calls Try.prog 12 #[.pointer (some ⟨rb, 0, none⟩), .int .i64 1] w (TPost w rb Av (getT 1 s).1 (getT 1 s).2) := by
  have hg : getT 1 s = (⟨1, 0, (rdBool s).1, [], []⟩, (rdBool s).2) := by simp [getT]
  rw [hg]
  have hka : Same w ((w.alloc (.cells #[.int .i64 0, .int .i64 0, .bool false, .string ⟨#[]⟩, .slice none 0 0] 33)).alloc (.cells #[.int .i64 1, .int .i64 0, .bool false, .string ⟨#[]⟩, .slice none 0 0] 33)) := ((Keep.refl _ w).alloc _).alloc _
  have HR := hid ((h.wide (Av' := fun i => Av i ∨ i = w.heap.size ∨ i = w.heap.size + 1) (fun i hi hs => by rcases hs with hs | hs; exact hs; omega)).same hka)
  have hrb := h.top.lt
  have HC := hid (rBool_any _ rb (fun i => Av i ∨ i = w.heap.size ∨ i = w.heap.size + 1) A n c s HR.out)
  have HB1 := hid ((Blk.made w 33 #[.int .i64 0, .int .i64 0, .bool false, .string ⟨#[]⟩, .slice none 0 0]).alloc (.cells #[.int .i64 1, .int .i64 0, .bool false, .string ⟨#[]⟩, .slice none 0 0] 33))
  have hb2 := Blk.made (w.alloc (.cells #[.int .i64 0, .int .i64 0, .bool false, .string ⟨#[]⟩, .slice none 0 0] 33)) 33 #[.int .i64 1, .int .i64 0, .bool false, .string ⟨#[]⟩, .slice none 0 0]
  rw [World.size_alloc] at hb2
  have HB2 := hid hb2
  have HK := hid hka
  clear h hg hka hb2
  generalize rdBool s = q at *
  obtain ⟨v, s1⟩ := q
  go_enter Try.func12, Try.ntmps12
  go_wp2_with fail
  refine HC.out.mono ?_
  rintro e w2 ⟨A2, n2, c2, rfl, g1, g2⟩
  have b1 := HB1.out.keep g2 (by omega)
  have b2 := HB2.out.keep g2 (by omega)
  have x0 : w2.cell? ⟨w.heap.size + 1, 0, none⟩ = some (.int .i64 1) := b2.at_ 0
  have x1 : w2.cell? ⟨w.heap.size + 1, 1, none⟩ = some (.int .i64 0) := b2.at_ 1
  have x2 : w2.cell? ⟨w.heap.size + 1, 2, none⟩ = some (.bool false) := b2.at_ 2
  have x3 : w2.cell? ⟨w.heap.size + 1, 3, none⟩ = some (.string ⟨#[]⟩) := b2.at_ 3
  have x4 : w2.cell? ⟨w.heap.size + 1, 4, none⟩ = some (.slice none 0 0) := b2.at_ 4
  have y0 : w2.cell? ⟨w.heap.size, 0, none⟩ = some (.int .i64 0) := b1.at_ 0
  have y1 : w2.cell? ⟨w.heap.size, 1, none⟩ = some (.int .i64 0) := b1.at_ 1
  have y2 : w2.cell? ⟨w.heap.size, 2, none⟩ = some (.bool false) := b1.at_ 2
  have y3 : w2.cell? ⟨w.heap.size, 3, none⟩ = some (.string ⟨#[]⟩) := b1.at_ 3
  have y4 : w2.cell? ⟨w.heap.size, 4, none⟩ = some (.slice none 0 0) := b1.at_ 4
  have f0 := b2.free
  have f1 := b1.free
  have z1 := b2.lt
  have hk9 : ∀ W', Keep (fun i => i = w.heap.size ∨ i = w.heap.size + 1) w2 W' → Rd W' rb Av A2 n2 c2 s1 ∧ Keep (· = rb) w W' := fun W' hk =>
    ⟨(g1.keep hk (fun i _ hs => .inr hs)).wide (fun _ _ h => .inl h), ((HK.out.wide (fun _ _ f => f.elim)).trans g2 (fun _ _ h => h)).trans hk (fun i hi hs => by omega)⟩
  have HK9 := hid hk9
  clear g1 g2 b1 b2 hk9 HC HR
  go_wp2
  refine bodyPost_ret (v := .agg (Tm.cells ⟨1, 0, v, ⟨#[]⟩, none, 0, 0, []⟩).toArray) (by simp [results, Try.results12, go_sem, Tm.cells, y0, y1, y2, y3, y4]) rfl ?_
  exact ⟨A2, n2, c2, ⟨1, 0, v, ⟨#[]⟩, none, 0, 0, []⟩, rfl, rfl, ⟨Sl.nil _ _ _ _⟩, (HK9.out _ (keep6 _ _ _ _ _ _ _ _ _)).1, (HK9.out _ (keep6 _ _ _ _ _ _ _ _ _)).2⟩

set_option maxHeartbeats 2000000 in
theorem read2_any (s : RS) (h : Rd w rb Av A n c s) (hsz : s.rest.length ≤ 1000000000) :
    Calls Try.prog 12 #[.pointer (some ⟨rb, 0, none⟩), .int .i64 2] w (TPost w rb Av (getT 2 s).1 (getT 2 s).2) := by
  have hg : getT 2 s = (⟨2, 0, false, (rdBytes s).1, []⟩, (rdBytes s).2) := by simp [getT]
  rw [hg]
  have hka : Same w ((w.alloc (.cells #[.int .i64 0, .int .i64 0, .bool false, .string ⟨#[]⟩, .slice none 0 0] 33)).alloc (.cells #[.int .i64 2, .int .i64 0, .bool false, .string ⟨#[]⟩, .slice none 0 0] 33)) := ((Keep.refl _ w).alloc _).alloc _
  have HR := hid ((h.wide (Av' := fun i => Av i ∨ i = w.heap.size ∨ i = w.heap.size + 1) (fun i hi hs => by rcases hs with hs | hs; exact hs; omega)).same hka)
  have hrb := h.top.lt
  have HC := hid (rBytes_any _ rb (fun i => Av i ∨ i = w.heap.size ∨ i = w.heap.size + 1) A n c s HR.out hsz)
  have HB1 := hid ((Blk.made w 33 #[.int .i64 0, .int .i64 0, .bool false, .string ⟨#[]⟩, .slice none 0 0]).alloc (.cells #[.int .i64 2, .int .i64 0, .bool false, .string ⟨#[]⟩, .slice none 0 0] 33))
  have hb2 := Blk.made (w.alloc (.cells #[.int .i64 0, .int .i64 0, .bool false, .string ⟨#[]⟩, .slice none 0 0] 33)) 33 #[.int .i64 2, .int .i64 0, .bool false, .string ⟨#[]⟩, .slice none 0 0]
  rw [World.size_alloc] at hb2
  have HB2 := hid hb2
  have HK := hid hka
  clear h hg hka hb2
  generalize rdBytes s = q at *
  obtain ⟨v, s1⟩ := q
  go_enter Try.func12, Try.ntmps12
  go_wp2_with fail
  refine HC.out.mono ?_
  rintro e w2 ⟨A2, n2, c2, B, rfl, g1, g2, g3⟩
  have hcv := conv_str w2 (fun _ => False) B (bcells v).length (bcells v).length v ⟨by simp, fun h0 => by
    obtain ⟨g, hB, _, hb⟩ := g3 h0
    exact ⟨g, 0, hB, hb.lt, fun f => f, Row.of_blk hb⟩⟩
  generalize (bcells v).length = m at *
  have b1 := HB1.out.keep g2 (by omega)
  have b2 := HB2.out.keep g2 (by omega)
  have x0 : w2.cell? ⟨w.heap.size + 1, 0, none⟩ = some (.int .i64 2) := b2.at_ 0
  have x1 : w2.cell? ⟨w.heap.size + 1, 1, none⟩ = some (.int .i64 0) := b2.at_ 1
  have x2 : w2.cell? ⟨w.heap.size + 1, 2, none⟩ = some (.bool false) := b2.at_ 2
  have x3 : w2.cell? ⟨w.heap.size + 1, 3, none⟩ = some (.string ⟨#[]⟩) := b2.at_ 3
  have x4 : w2.cell? ⟨w.heap.size + 1, 4, none⟩ = some (.slice none 0 0) := b2.at_ 4
  have y0 : w2.cell? ⟨w.heap.size, 0, none⟩ = some (.int .i64 0) := b1.at_ 0
  have y1 : w2.cell? ⟨w.heap.size, 1, none⟩ = some (.int .i64 0) := b1.at_ 1
  have y2 : w2.cell? ⟨w.heap.size, 2, none⟩ = some (.bool false) := b1.at_ 2
  have y3 : w2.cell? ⟨w.heap.size, 3, none⟩ = some (.string ⟨#[]⟩) := b1.at_ 3
  have y4 : w2.cell? ⟨w.heap.size, 4, none⟩ = some (.slice none 0 0) := b1.at_ 4
  have f0 := b2.free
  have f1 := b1.free
  have z1 := b2.lt
  have hk9 : ∀ W', Keep (fun i => i = w.heap.size ∨ i = w.heap.size + 1) w2 W' → Rd W' rb Av A2 n2 c2 s1 ∧ Keep (· = rb) w W' := fun W' hk =>
    ⟨(g1.keep hk (fun i _ hs => .inr hs)).wide (fun _ _ h => .inl h), ((HK.out.wide (fun _ _ f => f.elim)).trans g2 (fun _ _ h => h)).trans hk (fun i hi hs => by omega)⟩
  have HK9 := hid hk9
  clear g1 g2 g3 b1 b2 hk9 HC HR
  go_wp2
  refine bodyPost_ret (v := .agg (Tm.cells ⟨2, 0, false, strOf v, none, 0, 0, []⟩).toArray) (by simp [results, Try.results12, go_sem, Tm.cells, y0, y1, y2, y3, y4]) rfl ?_
  exact ⟨A2, n2, c2, ⟨2, 0, false, strOf v, none, 0, 0, []⟩, rfl, by simp [Tm.pt, strOf_list], ⟨Sl.nil _ _ _ _⟩, (HK9.out _ (keep6 _ _ _ _ _ _ _ _ _)).1, (HK9.out _ (keep6 _ _ _ _ _ _ _ _ _)).2⟩

set_option maxHeartbeats 2000000 in
theorem read3_any (s : RS) (h : Rd w rb Av A n c s) (hsz : s.rest.length ≤ 1000000000) :
    Calls Try.prog 12 #[.pointer (some ⟨rb, 0, none⟩), .int .i64 3] w (TPost w rb Av (getT 3 s).1 (getT 3 s).2) := by
  have hg : getT 3 s = (⟨3, 0, false, (rdBytes s).1, []⟩, (rdBytes s).2) := by simp [getT]
  rw [hg]
  have hka : Same w ((w.alloc (.cells #[.int .i64 0, .int .i64 0, .bool false, .string ⟨#[]⟩, .slice none 0 0] 33)).alloc (.cells #[.int .i64 3, .int .i64 0, .bool false, .string ⟨#[]⟩, .slice none 0 0] 33)) := ((Keep.refl _ w).alloc _).alloc _
  have HR := hid ((h.wide (Av' := fun i => Av i ∨ i = w.heap.size ∨ i = w.heap.size + 1) (fun i hi hs => by rcases hs with hs | hs; exact hs; omega)).same hka)
  have hrb := h.top.lt
  have HC := hid (rString_any _ rb (fun i => Av i ∨ i = w.heap.size ∨ i = w.heap.size + 1) A n c s HR.out hsz)
  have HB1 := hid ((Blk.made w 33 #[.int .i64 0, .int .i64 0, .bool false, .string ⟨#[]⟩, .slice none 0 0]).alloc (.cells #[.int .i64 3, .int .i64 0, .bool false, .string ⟨#[]⟩, .slice none 0 0] 33))
  have hb2 := Blk.made (w.alloc (.cells #[.int .i64 0, .int .i64 0, .bool false, .string ⟨#[]⟩, .slice none 0 0] 33)) 33 #[.int .i64 3, .int .i64 0, .bool false, .string ⟨#[]⟩, .slice none 0 0]
  rw [World.size_alloc] at hb2
  have HB2 := hid hb2
  have HK := hid hka
  clear h hg hka hb2
  generalize rdBytes s = q at *
  obtain ⟨v, s1⟩ := q
  go_enter Try.func12, Try.ntmps12
  go_wp2_with fail
  refine HC.out.mono ?_
  rintro e w2 ⟨A2, n2, c2, rfl, g1, g2⟩
  have b1 := HB1.out.keep g2 (by omega)
  have b2 := HB2.out.keep g2 (by omega)
  have x0 : w2.cell? ⟨w.heap.size + 1, 0, none⟩ = some (.int .i64 3) := b2.at_ 0
  have x1 : w2.cell? ⟨w.heap.size + 1, 1, none⟩ = some (.int .i64 0) := b2.at_ 1
  have x2 : w2.cell? ⟨w.heap.size + 1, 2, none⟩ = some (.bool false) := b2.at_ 2
  have x3 : w2.cell? ⟨w.heap.size + 1, 3, none⟩ = some (.string ⟨#[]⟩) := b2.at_ 3
  have x4 : w2.cell? ⟨w.heap.size + 1, 4, none⟩ = some (.slice none 0 0) := b2.at_ 4
  have y0 : w2.cell? ⟨w.heap.size, 0, none⟩ = some (.int .i64 0) := b1.at_ 0
  have y1 : w2.cell? ⟨w.heap.size, 1, none⟩ = some (.int .i64 0) := b1.at_ 1
  have y2 : w2.cell? ⟨w.heap.size, 2, none⟩ = some (.bool false) := b1.at_ 2
  have y3 : w2.cell? ⟨w.heap.size, 3, none⟩ = some (.string ⟨#[]⟩) := b1.at_ 3
  have y4 : w2.cell? ⟨w.heap.size, 4, none⟩ = some (.slice none 0 0) := b1.at_ 4
  have f0 := b2.free
  have f1 := b1.free
  have z1 := b2.lt
  have hk9 : ∀ W', Keep (fun i => i = w.heap.size ∨ i = w.heap.size + 1) w2 W' → Rd W' rb Av A2 n2 c2 s1 ∧ Keep (· = rb) w W' := fun W' hk =>
    ⟨(g1.keep hk (fun i _ hs => .inr hs)).wide (fun _ _ h => .inl h), ((HK.out.wide (fun _ _ f => f.elim)).trans g2 (fun _ _ h => h)).trans hk (fun i hi hs => by omega)⟩
  have HK9 := hid hk9
  clear g1 g2 b1 b2 hk9 HC HR
  go_wp2
  refine bodyPost_ret (v := .agg (Tm.cells ⟨3, 0, false, strOf v, none, 0, 0, []⟩).toArray) (by simp [results, Try.results12, go_sem, Tm.cells, y0, y1, y2, y3, y4]) rfl ?_
  exact ⟨A2, n2, c2, ⟨3, 0, false, strOf v, none, 0, 0, []⟩, rfl, by simp [Tm.pt, strOf_list], ⟨Sl.nil _ _ _ _⟩, (HK9.out _ (keep6 _ _ _ _ _ _ _ _ _)).1, (HK9.out _ (keep6 _ _ _ _ _ _ _ _ _)).2⟩

set_option maxHeartbeats 2000000 in
theorem read4_any (s : RS) (h : Rd w rb Av A n c s) (hsz : s.rest.length ≤ 1000000000) :
    Calls Try.prog 12 #[.pointer (some ⟨rb, 0, none⟩), .int .i64 4] w (TPost w rb Av (getT 4 s).1 (getT 4 s).2) := by
  have hg : getT 4 s = (⟨4, 0, false, [], (rdInts s).1⟩, (rdInts s).2) := by simp [getT]
  rw [hg]
  have hka : Same w ((w.alloc (.cells #[.int .i64 0, .int .i64 0, .bool false, .string ⟨#[]⟩, .slice none 0 0] 33)).alloc (.cells #[.int .i64 4, .int .i64 0, .bool false, .string ⟨#[]⟩, .slice none 0 0] 33)) := ((Keep.refl _ w).alloc _).alloc _
  have HR := hid ((h.wide (Av' := fun i => Av i ∨ i = w.heap.size ∨ i = w.heap.size + 1) (fun i hi hs => by rcases hs with hs | hs; exact hs; omega)).same hka)
  have hrb := h.top.lt
  have HC := hid (rInts_any _ rb (fun i => Av i ∨ i = w.heap.size ∨ i = w.heap.size + 1) A n c s HR.out hsz)
  have HB1 := hid ((Blk.made w 33 #[.int .i64 0, .int .i64 0, .bool false, .string ⟨#[]⟩, .slice none 0 0]).alloc (.cells #[.int .i64 4, .int .i64 0, .bool false, .string ⟨#[]⟩, .slice none 0 0] 33))
  have hb2 := Blk.made (w.alloc (.cells #[.int .i64 0, .int .i64 0, .bool false, .string ⟨#[]⟩, .slice none 0 0] 33)) 33 #[.int .i64 4, .int .i64 0, .bool false, .string ⟨#[]⟩, .slice none 0 0]
  rw [World.size_alloc] at hb2
  have HB2 := hid hb2
  have HK := hid hka
  clear h hg hka hb2
  generalize rdInts s = q at *
  obtain ⟨v, s1⟩ := q
  go_enter Try.func12, Try.ntmps12
  go_wp2_with fail
  refine HC.out.mono ?_
  rintro e w2 ⟨A2, n2, c2, B, rfl, g1, g2, g3⟩
  have hOk : ∀ W', Keep (fun i => i = w.heap.size ∨ i = w.heap.size + 1) w2 W' → TmOk W' (· < w.heap.size) (⟨4, 0, false, ⟨#[]⟩, B, v.length, v.length, v⟩ : Tm) := fun W' hk => ⟨by simp, fun h0 => by
    obtain ⟨g, hB, hg, hb⟩ := g3 (by simpa using h0)
    simp only [World.size_alloc] at hg
    exact ⟨g, 0, hB, Nat.lt_of_lt_of_le hb.lt hk.size, by simp; omega, Row.of_blk (hb.keep hk (by omega))⟩⟩
  have HOK := hid hOk
  clear hOk
  rw [List.length_map] at *
  have b1 := HB1.out.keep g2 (by omega)
  have b2 := HB2.out.keep g2 (by omega)
  have x0 : w2.cell? ⟨w.heap.size + 1, 0, none⟩ = some (.int .i64 4) := b2.at_ 0
  have x1 : w2.cell? ⟨w.heap.size + 1, 1, none⟩ = some (.int .i64 0) := b2.at_ 1
  have x2 : w2.cell? ⟨w.heap.size + 1, 2, none⟩ = some (.bool false) := b2.at_ 2
  have x3 : w2.cell? ⟨w.heap.size + 1, 3, none⟩ = some (.string ⟨#[]⟩) := b2.at_ 3
  have x4 : w2.cell? ⟨w.heap.size + 1, 4, none⟩ = some (.slice none 0 0) := b2.at_ 4
  have y0 : w2.cell? ⟨w.heap.size, 0, none⟩ = some (.int .i64 0) := b1.at_ 0
  have y1 : w2.cell? ⟨w.heap.size, 1, none⟩ = some (.int .i64 0) := b1.at_ 1
  have y2 : w2.cell? ⟨w.heap.size, 2, none⟩ = some (.bool false) := b1.at_ 2
  have y3 : w2.cell? ⟨w.heap.size, 3, none⟩ = some (.string ⟨#[]⟩) := b1.at_ 3
  have y4 : w2.cell? ⟨w.heap.size, 4, none⟩ = some (.slice none 0 0) := b1.at_ 4
  have f0 := b2.free
  have f1 := b1.free
  have z1 := b2.lt
  have hk9 : ∀ W', Keep (fun i => i = w.heap.size ∨ i = w.heap.size + 1) w2 W' → Rd W' rb Av A2 n2 c2 s1 ∧ Keep (· = rb) w W' := fun W' hk =>
    ⟨(g1.keep hk (fun i _ hs => .inr hs)).wide (fun _ _ h => .inl h), ((HK.out.wide (fun _ _ f => f.elim)).trans g2 (fun _ _ h => h)).trans hk (fun i hi hs => by omega)⟩
  have HK9 := hid hk9
  clear g1 g2 g3 b1 b2 hk9 HC HR
  go_wp2
  refine bodyPost_ret (v := .agg (Tm.cells ⟨4, 0, false, ⟨#[]⟩, B, v.length, v.length, v⟩).toArray) (by simp [results, Try.results12, go_sem, Tm.cells, y0, y1, y2, y3, y4]) rfl ?_
  exact ⟨A2, n2, c2, ⟨4, 0, false, ⟨#[]⟩, B, v.length, v.length, v⟩, rfl, rfl, HOK.out _ (keep6 _ _ _ _ _ _ _ _ _), (HK9.out _ (keep6 _ _ _ _ _ _ _ _ _)).1, (HK9.out _ (keep6 _ _ _ _ _ _ _ _ _)).2⟩
end
end Go.Proofs.Ytohgclbgjdpggaa

import Derived.Test.YtnejacmmbfeneaaGenH
import Derived.Deep.LoopGhost
import Derived.Outline
namespace Go.Proofs.Ytnejacmmbfeneaa
open Go.RowKit Go.PlainAid

/-! ## Generate -/
def iterR (c : CF) (m : RT) : Nat → AS → AS
  | 0, x => x
  | k + 1, x => roundM c m (iterR c m k x)
def AS.start (seed : Int) : AS := ⟨seed, 0, false, List.replicate 9 false, []⟩
theorem iterR_stp (c : CF) (m : RT) (x : AS) (hd : 1 ≤ (c.dis.length : Int)) (hc : 1 ≤ c.cen) : ∀ k, ∃ n, Stp c n x (iterR c m k x)
  | 0 => ⟨0, .refl c x⟩
  | k + 1 => by
    obtain ⟨n, h⟩ := iterR_stp c m x hd hc k
    exact ⟨n + 15, h.trans (roundM_stp c m _ hd hc).1⟩
theorem iterR_add (c : CF) (m : RT) (x : AS) (j : Nat) : ∀ k, iterR c m (j + k) x = iterR c m k (iterR c m j x)
  | 0 => rfl
  | k + 1 => by rw [Nat.add_succ, iterR, iterR_add c m x j k]; rfl
/-- the actions of a scenario -/
def GenL (c : CF) (m : RT) (seed : Int) (many : Nat) (l : List AV) : Prop := (vnum c = 0 ∧ ∃ k, many ≤ (iterR c m k (AS.start seed)).l.length ∧ l = (iterR c m k (AS.start seed)).l.take many) ∨ (vnum c ≠ 0 ∧ l = [])
theorem GenL.uniq {c : CF} {m : RT} {seed : Int} {a b : Nat} {l k : List AV} (h1 : GenL c m seed a l) (h2 : GenL c m seed b k) (hab : a ≤ b) : l.length ≤ k.length ∧ l = k.take l.length ∧ (a = b → l = k) := by
  rcases h1 with ⟨hv, i, hi, rfl⟩ | ⟨hv, rfl⟩
  · rcases h2 with ⟨_, j, hj, rfl⟩ | ⟨hv2, _⟩
    · obtain ⟨hf, _⟩ := vnum_ok hv
      have key : ∀ i j, i ≤ j → ∃ t, (iterR c m j (AS.start seed)).l = (iterR c m i (AS.start seed)).l ++ t := by
        intro i j hij
        obtain ⟨d, rfl⟩ : ∃ d, j = i + d := ⟨j - i, by omega⟩
        rw [iterR_add]
        obtain ⟨n, t, h, _⟩ := iterR_stp c m (iterR c m i (AS.start seed)) hf.2.2.1 hf.1 d
        exact ⟨t, h⟩
      have e : ((iterR c m i (AS.start seed)).l.take a).length = a := by rw [List.length_take]; omega
      have e2 : (iterR c m i (AS.start seed)).l.take a = (iterR c m j (AS.start seed)).l.take a := by
        rcases Nat.le_total i j with h | h
        · obtain ⟨t, ht⟩ := key i j h
          rw [ht, List.take_append_of_le_length hi]
        · obtain ⟨t, ht⟩ := key j i h
          rw [ht, List.take_append_of_le_length (by omega)]
      refine ⟨by rw [e, List.length_take]; omega, ?_, fun hab2 => ?_⟩
      · rw [e, List.take_take, Nat.min_eq_left hab, e2]
      · subst hab2; exact e2
    · exact absurd hv hv2
  · rcases h2 with ⟨hv2, _⟩ | ⟨_, rfl⟩
    · exact absurd hv2 hv
    · exact ⟨Nat.le_refl _, rfl, fun _ => rfl⟩
theorem good_take {c : CF} {d : Int} {l : List AV} (h : good c d l) (n : Nat) : good c d (l.take n) := by
  induction l generalizing d n with
  | nil => simp [good]
  | cons a l ih =>
    cases n with
    | zero => trivial
    | succ n => exact ⟨h.1, ih h.2 n⟩
theorem GenL.good {c : CF} {m : RT} {seed : Int} {a : Nat} {l : List AV} (h : GenL c m seed a l) : good c 0 l := by
  rcases h with ⟨hv, i, hi, rfl⟩ | ⟨_, rfl⟩
  · obtain ⟨hf, _⟩ := vnum_ok hv
    obtain ⟨n, t, h, _, _, hg⟩ := iterR_stp c m (AS.start seed) hf.2.2.1 hf.1 i
    have e : (iterR c m i (AS.start seed)).l = t := h
    rw [e]
    exact good_take hg a
  · trivial
def genPost (w : World) (c : CF) (m : RT) (seed : Int) (many : Nat) (e : Ending) (w' : World) : Prop :=
  ∃ A cp la, e = .returned (.slice A la.length cp) ∧ GenL c m seed many (la.map AC.val) ∧ (la.length ≤ 1000 ∧ la.length ≤ cp) ∧ ActM w' A la ∧ Same w w'
theorem vnum_edg {c : CF} (h : vnum c = 0) : (c.edg.length : Int) ≤ 9223372036854775807 := by
  obtain ⟨h4, _⟩ := vnum_ok h
  cases h3 : disB c
  · have := vnum3 h4 h3; omega
  · cases h5 : edgesB c
    · have := vnum4 h4 h3 h5; omega
    · simp [edgesB] at h5; omega
def GenLoop (w wr : World) (g r : Nat) (c : CF) (m : RT) (seed : Int) (q gk : Nat) : Prop := ∃ k, GI.Ex w.heap.size wr g r c m (iterR c m k (AS.start seed)) ∧ Same w wr ∧ q ≤ (iterR c m k (AS.start seed)).l.length + gk ∧ (iterR c m k (AS.start seed)).l.length ≤ q + 15
theorem GM.start {w : World} {c : CF} {m : RT} {seed : Int} {g r : Nat} (hb : Blk w g 72 (gcells r c m 0 false (List.replicate 9 false) none 0 0).toArray) (hr : Gn w 63 r seed) (hgr : g ≠ r) : GM w g r c m seed 0 false (List.replicate 9 false) none 0 [] :=
  ⟨hb, hr, Own.nil _ _ _ _, fun a ha => by simp at ha, hgr, by simp, by simp, rfl⟩
theorem flat_take {α β : Type} (f : α → List β) (k : Nat) (hf : ∀ a, (f a).length = k) : ∀ (l : List α) (q : Nat), (l.take q).flatMap f = (l.flatMap f).take (q * k)
  | [], q => by simp
  | a :: l, 0 => by simp
  | a :: l, q + 1 => by
    have e : (q + 1) * k = k + q * k := by rw [Nat.succ_mul]; omega
    have e2 : (f a).take (k + q * k) = f a := List.take_of_length_le (by rw [hf]; omega)
    rw [List.take_succ_cons, List.flatMap_cons, List.flatMap_cons, flat_take f k hf l q, List.take_append, hf, e, e2]
    congr 2
    omega
theorem gen_fin {w W : World} {c : CF} {m : RT} {seed : Int} {A : Option Addr} {la : List AC} {k q : Nat} (hv : vnum c = 0) (h1 : ActM W A la) (h2 : la.map AC.val = (iterR c m k (AS.start seed)).l) (h3 : q ≤ la.length) (h4 : q ≤ 1000) (h5 : Same w W) : genPost w c m seed q (.returned (.slice A q q)) W := by
  have e : (la.take q).length = q := by rw [List.length_take]; omega
  refine ⟨A, q, la.take q, by rw [e], .inl ⟨hv, k, by rw [← h2, List.length_map]; exact h3, by rw [← h2, List.map_take]⟩, by omega, ⟨?_, fun a ha => h1.ok a (List.mem_of_mem_take ha)⟩, h5⟩
  have hs := h1.sl.take q h3
  rw [e]
  have e2 : accells (la.take q) = (accells la).take (q * 8) := by
    rw [accells, accells, flat_take AC.cells 8 (fun _ => rfl)]
  rw [e2]; exact hs
section
variable (w : World)
set_option maxRecDepth 100000 in
set_option maxHeartbeats 8000000 in
theorem generate_bad (c : CF) (hm : CM w c) (m : RT) (seed many : Int) (q : Nat) (hv : ¬ vnum c = 0) : Calls Try.prog 21 #[.agg c.cells.toArray, .agg m.cells.toArray, .int .u64 seed, .int .i64 many] w (genPost w c m seed q) := by
  have hb0 := ((Blk.made w 42 c.cells.toArray).alloc (.cells m.cells.toArray 49))
  have hw0 := ((Keep.refl (fun _ => False) w).alloc (.cells c.cells.toArray 42)).alloc (.cells m.cells.toArray 49)
  have HW := hid hw0
  have hb1 := cfc hb0
  have HV := hid (fun W (hk : Same w W) => validate_any W c (hm.same hk))
  have hv2 : ((vnum c : Int) != 0) = true := by simpa using hv
  have HG := hid (show GenL c m seed q [] from .inr ⟨hv, rfl⟩)
  clear hb0 hw0 hm hv
  generalize vnum c = vn at *
  obtain ⟨cen, D, cD, dis, E, cE, edg, U, cU, uni, P, cP, pla, h0, h1, h2, h3, h4, h5, h6, h7, h8, h9⟩ := c
  obtain ⟨c0, c1, c2, c3, c4, c5, c6, c7, c8, c9, c10, c11, c12, c13, c14, hg⟩ := hb1
  simp only [CF.cells, RT.cells] at *
  go_enter Try.func21, Try.ntmps21
  go_wp2_with (go_at_call 29; (with_reducible refine (HV.out _ HW.out).mono ?_); rintro e w2 ⟨rfl, hs2⟩; have HS2 := hid hs2; clear hs2)
  go_ret
  exact ⟨none, 0, [], rfl, HG.out, ⟨by simp, by simp⟩, ⟨Sl.nil _ _ _ _, by simp⟩, HW.out.then HS2.out⟩
set_option maxRecDepth 100000 in
set_option maxHeartbeats 8000000 in
theorem generate_ok (c : CF) (hm : CM w c) (m : RT) (seed many : Int) (hs0 : 0 ≤ seed) (hs1 : seed ≤ 18446744073709551615) (hmany : many ≤ 300) (hv : vnum c = 0) : Calls Try.prog 21 #[.agg c.cells.toArray, .agg m.cells.toArray, .int .u64 seed, .int .i64 many] w (genPost w c m seed many.toNat) := by
  have hb0 := ((Blk.made w 42 c.cells.toArray).alloc (.cells m.cells.toArray 49))
  have hr0 := Blk.made (w.alloc (.cells c.cells.toArray 42)) 49 m.cells.toArray
  rw [World.size_alloc] at hr0
  have hw0 := ((Keep.refl (fun _ => False) w).alloc (.cells c.cells.toArray 42)).alloc (.cells m.cells.toArray 49)
  have HB0 := hid (fun W (hk : Same ((w.alloc (.cells c.cells.toArray 42)).alloc (.cells m.cells.toArray 49)) W) => cfc (hb0.keep (S := fun _ => False) hk (fun f => f)))
  have HR0 := hid hr0
  have HW := hid hw0
  have hb1 := cfc hb0
  have HV := hid (fun W (hk : Same w W) => validate_any W c (hm.same hk))
  have HVN := hid hv
  obtain ⟨hf, hu⟩ := vnum_ok hv
  have hne := vnum_edg hv
  have HNE := hid hne
  have HGS := hid (fun W g r hb hr hgr => GM.start (w := W) (c := c) (m := m) (seed := seed) (g := g) (r := r) hb hr hgr)
  have HROUND := hid (fun W g r x A cp la (h : GI w.heap.size W g r c m x A cp la) (hw : w.heap.size ≤ W.heap.size) h1 h2 h3 => round_any h hw h1 h2 h3 hf.2.2.1 hf.2.2.2 hf.1 hf.2.1 hu hne)
  have HSTP := hid (fun x => roundM_stp c m x hf.2.2.1 hf.1)
  have HNN := hid (fun k => (iterR_stp c m (AS.start seed) hf.2.2.1 hf.1 k))
  have HFIN := hid (fun W A la k q h1 h2 h3 h4 h5 => gen_fin (w := w) (c := c) (m := m) (seed := seed) (W := W) (A := A) (la := la) (k := k) (q := q) hv h1 h2 h3 h4 h5)
  rw [hv] at HV
  clear hb0 hr0 hw0 hm hv hf hu hne
  obtain ⟨q, hq⟩ : ∃ q : Nat, q = many.toNat := ⟨_, rfl⟩
  have hmx : max many 0 = (q : Int) := by omega
  have hmn : min (q : Int) 10000 = (q : Int) := by omega
  have hq3 : q ≤ 300 := by omega
  rw [← hq]
  clear hq
  obtain ⟨cen, D, cD, dis, E, cE, edg, U, cU, uni, P, cP, pla, h0, h1, h2, h3, h4, h5, h6, h7, h8, h9⟩ := c
  obtain ⟨m0, m1, m2, m3, m4, m5, m6⟩ := m
  obtain ⟨c0, c1, c2, c3, c4, c5, c6, c7, c8, c9, c10, c11, c12, c13, c14, hg⟩ := hb1
  simp only [CF.cells, RT.cells] at *
  go_enter Try.func21, Try.ntmps21
  go_upto_region 4 with (
    go_at_call 29
    (with_reducible refine (HV.out _ HW.out).mono ?_)
    rintro e w2 ⟨rfl, hs2⟩
    have HS2 := hid hs2
    clear hs2)
  clear c0 c1 c2 c3 c4 c5 c6 c7 c8 c9 c10 c11 c12 c13 c14 hg hmx hmn
  obtain ⟨c0, c1, c2, c3, c4, c5, c6, c7, c8, c9, c10, c11, c12, c13, c14, hg⟩ := HB0.out _ HS2.out
  simp only at c0 c1 c2 c3 c4 c5 c6 c7 c8 c9 c10 c11 c12 c13 c14
  have hr2 := HR0.out.keep HS2.out (fun f => f)
  have d0 := hr2.at_ 0
  have d1 := hr2.at_ 1
  have d2 := hr2.at_ 2
  have d3 := hr2.at_ 3
  have d4 := hr2.at_ 4
  have d5 := hr2.at_ 5
  have d6 := hr2.at_ 6
  clear hr2
  have HW2 := hid (HW.out.then HS2.out)
  go_region_held3 (fun W => W.cell? ⟨w.heap.size, 0, none⟩ = some (.int .i64 cen) ∧ W.cell? ⟨w.heap.size, 1, none⟩ = some (.slice D dis.length cD) ∧ W.cell? ⟨w.heap.size, 2, none⟩ = some (.slice E edg.length cE) ∧ W.cell? ⟨w.heap.size, 3, none⟩ = some (.slice U uni.length cU) ∧ W.cell? ⟨w.heap.size, 4, none⟩ = some (.slice P pla.length cP) ∧ W.cell? ⟨w.heap.size, 5, none⟩ = some (.int .i64 h0) ∧ W.cell? ⟨w.heap.size, 6, none⟩ = some (.int .i64 h1) ∧ W.cell? ⟨w.heap.size, 7, none⟩ = some (.int .i64 h2) ∧ W.cell? ⟨w.heap.size, 8, none⟩ = some (.int .i64 h3) ∧ W.cell? ⟨w.heap.size, 9, none⟩ = some (.int .i64 h4) ∧ W.cell? ⟨w.heap.size, 10, none⟩ = some (.int .i64 h5) ∧ W.cell? ⟨w.heap.size, 11, none⟩ = some (.int .i64 h6) ∧ W.cell? ⟨w.heap.size, 12, none⟩ = some (.int .i64 h7) ∧ W.cell? ⟨w.heap.size, 13, none⟩ = some (.int .i64 h8) ∧ W.cell? ⟨w.heap.size, 14, none⟩ = some (.int .i64 h9) ∧ W.cell? ⟨w.heap.size + 1, 0, none⟩ = some (.int .i64 m0) ∧ W.cell? ⟨w.heap.size + 1, 1, none⟩ = some (.int .i64 m1) ∧ W.cell? ⟨w.heap.size + 1, 2, none⟩ = some (.int .i64 m2) ∧ W.cell? ⟨w.heap.size + 1, 3, none⟩ = some (.int .i64 m3) ∧ W.cell? ⟨w.heap.size + 1, 4, none⟩ = some (.int .i64 m4) ∧ W.cell? ⟨w.heap.size + 1, 5, none⟩ = some (.int .i64 m5) ∧ W.cell? ⟨w.heap.size + 1, 6, none⟩ = some (.int .i64 m6))
    (first | exact ⟨c0, c1, c2, c3, c4, c5, c6, c7, c8, c9, c10, c11, c12, c13, c14, d0, d1, d2, d3, d4, d5, d6⟩ | go_keep)
    (first | (go_at_call 10; (with_reducible refine (newrand_any _ seed hs0 hs1).mono ?_); rintro e w3 ⟨rfl, rfl⟩))
  go_wp2_with fail
  have hbg := (Blk.made (w2.alloc (.cells #[.int .u64 seed] 63)) 72 #[.pointer (some ⟨w2.heap.size, 0, none⟩), .int .i64 cen, .slice D dis.length cD, .slice E edg.length cE, .slice U uni.length cU, .slice P pla.length cP, .int .i64 h0, .int .i64 h1, .int .i64 h2, .int .i64 h3, .int .i64 h4, .int .i64 h5, .int .i64 h6, .int .i64 h7, .int .i64 h8, .int .i64 h9, .int .i64 m0, .int .i64 m1, .int .i64 m2, .int .i64 m3, .int .i64 m4, .int .i64 m5, .int .i64 m6, .int .i64 0, .bool false, .bool false, .bool false, .bool false, .bool false, .bool false, .bool false, .bool false, .bool false, .bool false, .slice none 0 0]).drew
  rw [World.size_alloc] at hbg
  have hrg := (((Gn.new (w := w2) (t := 63) hs0 hs1).keep ((Keep.refl (fun _ => False) _).alloc (.cells #[.pointer (some ⟨w2.heap.size, 0, none⟩), .int .i64 cen, .slice D dis.length cD, .slice E edg.length cE, .slice U uni.length cU, .slice P pla.length cP, .int .i64 h0, .int .i64 h1, .int .i64 h2, .int .i64 h3, .int .i64 h4, .int .i64 h5, .int .i64 h6, .int .i64 h7, .int .i64 h8, .int .i64 h9, .int .i64 m0, .int .i64 m1, .int .i64 m2, .int .i64 m3, .int .i64 m4, .int .i64 m5, .int .i64 m6, .int .i64 0, .bool false, .bool false, .bool false, .bool false, .bool false, .bool false, .bool false, .bool false, .bool false, .bool false, .slice none 0 0] 72)) (fun f => f)).keep (Keep.refl (fun _ => False) _).drew (fun f => f))
  have hsz2 : w.heap.size ≤ w2.heap.size := HW2.out.size
  have HG0 := hid (show GenLoop w (((w2.alloc (.cells #[.int .u64 seed] 63)).alloc (.cells #[.pointer (some ⟨w2.heap.size, 0, none⟩), .int .i64 cen, .slice D dis.length cD, .slice E edg.length cE, .slice U uni.length cU, .slice P pla.length cP, .int .i64 h0, .int .i64 h1, .int .i64 h2, .int .i64 h3, .int .i64 h4, .int .i64 h5, .int .i64 h6, .int .i64 h7, .int .i64 h8, .int .i64 h9, .int .i64 m0, .int .i64 m1, .int .i64 m2, .int .i64 m3, .int .i64 m4, .int .i64 m5, .int .i64 m6, .int .i64 0, .bool false, .bool false, .bool false, .bool false, .bool false, .bool false, .bool false, .bool false, .bool false, .bool false, .slice none 0 0] 72)).drew) (w2.heap.size + 1) w2.heap.size ⟨cen, D, cD, dis, E, cE, edg, U, cU, uni, P, cP, pla, h0, h1, h2, h3, h4, h5, h6, h7, h8, h9⟩ ⟨m0, m1, m2, m3, m4, m5, m6⟩ seed q q from
    ⟨0, ⟨none, 0, [], HGS.out _ _ _ hbg hrg (by omega), rfl, by omega, by omega, fun _ e => by simp at e⟩, ((HW2.out.alloc _).alloc _).drew, by omega, by simp [iterR, AS.start]⟩)
  clear hbg hrg
  generalize ((w2.alloc (.cells #[.int .u64 seed] 63)).alloc (.cells #[.pointer (some ⟨w2.heap.size, 0, none⟩), .int .i64 cen, .slice D dis.length cD, .slice E edg.length cE, .slice U uni.length cU, .slice P pla.length cP, .int .i64 h0, .int .i64 h1, .int .i64 h2, .int .i64 h3, .int .i64 h4, .int .i64 h5, .int .i64 h6, .int .i64 h7, .int .i64 h8, .int .i64 h9, .int .i64 m0, .int .i64 m1, .int .i64 m2, .int .i64 m3, .int .i64 m4, .int .i64 m5, .int .i64 m6, .int .i64 0, .bool false, .bool false, .bool false, .bool false, .bool false, .bool false, .bool false, .bool false, .bool false, .bool false, .slice none 0 0] 72)).drew = w4 at *
  clear c0 c1 c2 c3 c4 c5 c6 c7 c8 c9 c10 c11 c12 c13 c14 d0 d1 d2 d3 d4 d5 d6 hg
  generalize hgg : w2.heap.size + 1 = g at *
  have hrl : w2.heap.size < g := by omega
  clear hgg
  generalize w2.heap.size = r at *
  go_loopg [] q (fun gk wr => Hid (GenLoop w wr g r ⟨cen, D, cD, dis, E, cE, edg, U, cU, uni, P, cP, pla, h0, h1, h2, h3, h4, h5, h6, h7, h8, h9⟩ ⟨m0, m1, m2, m3, m4, m5, m6⟩ seed q gk))
  case atStart => exact hid HG0.out
  case round =>
    obtain ⟨k, ⟨A, cp, la, hI⟩, hsm, hk1, hk2⟩ := hrel.out
    have HI := hid hI
    have HSM := hid hsm
    have hla := hI.len
    have hlv := hI.val
    have HLV := hid hlv
    clear hrel hI hsm hlv HG0
    have hst := HSTP.out (iterR ⟨cen, D, cD, dis, E, cE, edg, U, cU, uni, P, cP, pla, h0, h1, h2, h3, h4, h5, h6, h7, h8, h9⟩ ⟨m0, m1, m2, m3, m4, m5, m6⟩ k (AS.start seed))
    obtain ⟨n, hnn⟩ := HNN.out k
    have HIT := hid (show iterR ⟨cen, D, cD, dis, E, cE, edg, U, cU, uni, P, cP, pla, h0, h1, h2, h3, h4, h5, h6, h7, h8, h9⟩ ⟨m0, m1, m2, m3, m4, m5, m6⟩ (k + 1) (AS.start seed) = roundM ⟨cen, D, cD, dis, E, cE, edg, U, cU, uni, P, cP, pla, h0, h1, h2, h3, h4, h5, h6, h7, h8, h9⟩ ⟨m0, m1, m2, m3, m4, m5, m6⟩ (iterR ⟨cen, D, cD, dis, E, cE, edg, U, cU, uni, P, cP, pla, h0, h1, h2, h3, h4, h5, h6, h7, h8, h9⟩ ⟨m0, m1, m2, m3, m4, m5, m6⟩ k (AS.start seed)) from rfl)
    have HFK := hid (fun W A la => HFIN.out W A la k q)
    have hdi : 0 ≤ (iterR ⟨cen, D, cD, dis, E, cE, edg, U, cU, uni, P, cP, pla, h0, h1, h2, h3, h4, h5, h6, h7, h8, h9⟩ ⟨m0, m1, m2, m3, m4, m5, m6⟩ k (AS.start seed)).di ∧ (iterR ⟨cen, D, cD, dis, E, cE, edg, U, cU, uni, P, cP, pla, h0, h1, h2, h3, h4, h5, h6, h7, h8, h9⟩ ⟨m0, m1, m2, m3, m4, m5, m6⟩ k (AS.start seed)).di ≤ (iterR ⟨cen, D, cD, dis, E, cE, edg, U, cU, uni, P, cP, pla, h0, h1, h2, h3, h4, h5, h6, h7, h8, h9⟩ ⟨m0, m1, m2, m3, m4, m5, m6⟩ k (AS.start seed)).l.length := by
      obtain ⟨t, t1, _, t3, _⟩ := hnn
      have a1 := dials_nn t
      have a2 := dials_le t
      rw [t1, t3]
      simp [AS.start]; omega
    clear hnn
    obtain ⟨q0, q1, q2, q3, q4, r0, r1, r2, r3, r4, r5, r6, qd, qs, ql, qf, qg⟩ := HI.out.gm.gc
    generalize iterR ⟨cen, D, cD, dis, E, cE, edg, U, cU, uni, P, cP, pla, h0, h1, h2, h3, h4, h5, h6, h7, h8, h9⟩ ⟨m0, m1, m2, m3, m4, m5, m6⟩ k (AS.start seed) = x at *
    by_cases hlt : la.length < q
    · obtain ⟨hsp, hgr⟩ := hst
      have hln := hsp.len
      have HR := hid (HROUND.out _ _ _ _ _ _ _ HI.out HSM.out.size (by omega) hdi.1 (by omega))
      clear hsp hdi HI hsz2 hrl
      go_wp2_with (
        go_at_call 33
        (with_reducible refine HR.out.mono ?_)
        rintro e w6 ⟨rfl, hI6, hk6⟩
        have HI6 := hid hI6
        have HK6 := hid hk6
        clear hI6 hk6)
      go_roundg (q - (roundM ⟨cen, D, cD, dis, E, cE, edg, U, cU, uni, P, cP, pla, h0, h1, h2, h3, h4, h5, h6, h7, h8, h9⟩ ⟨m0, m1, m2, m3, m4, m5, m6⟩ x).l.length)
      case measure => omega
      case rel => exact hid ⟨k + 1, by rw [HIT.out]; exact HI6.out, HSM.out.trans HK6.out (fun i hi hb => by omega), by rw [HIT.out]; omega, by rw [HIT.out]; omega⟩
    · have hge : q ≤ la.length := by omega
      have hQ := hid (HFK.out wr A la ⟨HI.out.gm.own.sl (fun _ _ f => f), fun a ha => (HI.out.gm.ok a ha).ok⟩ HLV.out hge (by omega) HSM.out)
      have hcap : la.length ≤ cp := HI.out.gm.own.cap
      have hcap2 : q ≤ cp := by omega
      go_wp2_with fail
      go_ret
      exact hQ.out
end
end Go.Proofs.Ytnejacmmbfeneaa

import Derived.Test.YtnejacmmbfeneaaGenP
import Derived.Deep.LoopGhost
namespace Go.Proofs.Ytnejacmmbfeneaa
open Go.RowKit Go.PlainAid

/-! ## Acts -/
theorem EBo : Elem Try.prog 74 4 1 1 (.bool false) := ⟨Try.underlying74, by kernel_rfl, rfl, by decide⟩
theorem made_false (n : Nat) (hn : n ≤ 9) : madeCells (Value.cells (.bool false)) (n * 1) = (((List.replicate 9 false).take n).map Value.bool).toArray := by
  rw [List.take_replicate, List.map_replicate, Nat.min_eq_left hn]
  apply Array.ext
  · simp [size_madeCells]
  · intro i h1 h2
    simp [madeCells, Value.cells, Nat.mod_one]
theorem gen_fin2 {w W : World} {c : CF} {m : RT} {seed : Int} {A : Option Addr} {cp : Nat} {la : List AC} {k q : Nat} (hv : vnum c = 0) (h1 : ActM W A la) (h2 : la.map AC.val = (iterR c m k (AS.start seed)).l) (h3 : q ≤ la.length) (h4 : q ≤ 1000) (hcp : q ≤ cp) (h5 : Same w W) : genPost w c m seed q (.returned (.slice A q cp)) W := by
  obtain ⟨A', cp', la', he, hr1, hr2, hr3, hr4⟩ := gen_fin (w := w) hv h1 h2 h3 h4 h5
  injection he with he
  injection he with e1 e2 e3
  subst e1
  exact ⟨A, cp, la', by rw [e2], hr1, ⟨hr2.1, by omega⟩, hr3, hr4⟩
theorem cfc_and15 {W : World} {g : Nat} {c : CF} (h : CFc W g c) : W.cell? ⟨g, 0, none⟩ = some (.int .i64 c.cen) ∧ W.cell? ⟨g, 1, none⟩ = some (.slice c.D c.dis.length c.cD) ∧ W.cell? ⟨g, 2, none⟩ = some (.slice c.E c.edg.length c.cE) ∧ W.cell? ⟨g, 3, none⟩ = some (.slice c.U c.uni.length c.cU) ∧ W.cell? ⟨g, 4, none⟩ = some (.slice c.P c.pla.length c.cP) ∧ W.cell? ⟨g, 5, none⟩ = some (.int .i64 c.h0) ∧ W.cell? ⟨g, 6, none⟩ = some (.int .i64 c.h1) ∧ W.cell? ⟨g, 7, none⟩ = some (.int .i64 c.h2) ∧ W.cell? ⟨g, 8, none⟩ = some (.int .i64 c.h3) ∧ W.cell? ⟨g, 9, none⟩ = some (.int .i64 c.h4) ∧ W.cell? ⟨g, 10, none⟩ = some (.int .i64 c.h5) ∧ W.cell? ⟨g, 11, none⟩ = some (.int .i64 c.h6) ∧ W.cell? ⟨g, 12, none⟩ = some (.int .i64 c.h7) ∧ W.cell? ⟨g, 13, none⟩ = some (.int .i64 c.h8) ∧ W.cell? ⟨g, 14, none⟩ = some (.int .i64 c.h9) :=
  ⟨h.c0, h.c1, h.c2, h.c3, h.c4, h.c5, h.c6, h.c7, h.c8, h.c9, h.c10, h.c11, h.c12, h.c13, h.c14⟩
theorem RM.start {w : World} {b r d cn : Nat} {c : CF} {seed : Int} (hc : c.cen = cn) (hb : Blk w b 76 (scells r d c 0 false).toArray) (hr : Gn w 33 r seed) (hd : Blk w d 4 (((List.replicate 9 false).take cn).map Value.bool).toArray) (h1 : b ≠ r) (h2 : b ≠ d) (h3 : r ≠ d) : RM w b r d c (AS.start seed) :=
  ⟨hb, hr, by rw [hc]; exact hd, h1, h2, h3, rfl⟩
/-- the loop of Acts -/
structure PAc (w w5 wr : World) (b r d : Nat) (c : CF) (m : RT) (x : AS) (A : Option Addr) (cp : Nat) (la : List AC) : Prop where
  rm : RM wr b r d c x
  own : Own wr 0 59 8 (.slice A la.length cp) la.length (accells la)
  ok : ∀ a ∈ la, AcK wr (fun i => brd b r d i ∨ A.map (·.block) = some i) a
  kp : Keep (brd b r d) w5 wr
  ba : ∀ q, A.map (·.block) = some q → w5.heap.size ≤ q
  val : la.map AC.val = x.l
theorem PAc.start {w w5 : World} {b r d : Nat} {c : CF} {m : RT} {seed : Int} (h : RM w5 b r d c (AS.start seed)) : PAc w w5 w5 b r d c m (AS.start seed) none 0 [] :=
  ⟨h, Own.nil _ _ _ _, by simp, Keep.refl _ _, fun q e => by simp at e, rfl⟩
/-- a round's list is appended -/
theorem PAc.push {w w5 wr w6 w7 : World} {b r d : Nat} {c : CF} {m : RT} {x y z : AS} {A A2 A7 : Option Addr} {cp cp2 c7 : Nat} {la la2 : List AC} (h : PAc w w5 wr b r d c m x A cp la) (h2 : RI wr w6 b r d c m y A2 cp2 la2) (hx : z = y.pre x.l)
    (ho : Own w7 0 59 8 (.slice A7 (la.length + la2.length) c7) (la.length + la2.length) (accells la ++ accells la2)) (hg : w6.grownBy w7 (Value.slice A la.length cp).ownBlock)
    (hwh : A7.map (·.block) = (Value.slice A la.length cp).ownBlock ∨ A7.map (·.block) = some w6.heap.size) (hlt : b < w5.heap.size ∧ r < w5.heap.size ∧ d < w5.heap.size) :
    PAc w w5 w7 b r d c m z A7 c7 (la ++ la2) := by
  rw [ownB] at hg hwh
  have hs5 := h.kp.size
  have hs6 := h2.kp.size
  have hal : ∀ q, A.map (·.block) = some q → q < wr.heap.size := fun q e => h.own.lt q (by rw [ownB, e])
  have hfar : ∀ i, brd b r d i → i < w5.heap.size := fun i e => by
    rcases e with e | e | e
    · subst e; exact hlt.1
    · subst e; exact hlt.2.1
    · subst e; exact hlt.2.2
  have hk7 : Keep (fun i => A.map (·.block) = some i) w6 w7 := (Keep.refl _ w6).grown hg (fun q e _ => e)
  have hnew : ∀ q, A7.map (·.block) = some q → A.map (·.block) = some q ∨ w6.heap.size ≤ q := by
    intro q e
    rcases hwh with h1 | h1
    · left; rw [← h1, e]
    · right; rw [e] at h1; injection h1 with h1; omega
  have hnA : ∀ i, brd b r d i → ¬ A.map (·.block) = some i := fun i e e2 => by have := hfar i e; have := h.ba i e2; omega
  refine ⟨?_, ?_, ?_, ?_, ?_, ?_⟩
  · rw [hx]
    exact (h2.rm.far hk7 (hnA _ (.inl rfl)) (hnA _ (.inr (.inl rfl))) (hnA _ (.inr (.inr rfl)))).noL rfl rfl rfl rfl
  · rw [List.length_append, show accells (la ++ la2) = accells la ++ accells la2 by simp [accells]]
    exact ho
  · intro y hy
    rcases List.mem_append.1 hy with hy | hy
    · have h1 : AcK wr (fun i => (brd b r d i ∨ A.map (·.block) = some i) ∨ A7.map (·.block) = some i) y := (h.ok y hy).wide (fun i hi hs => by
        rcases hs with hs | hs
        · exact hs
        · rcases hnew i hs with h3 | h3
          · exact .inr h3
          · omega)
      have h3 := h1.keep h2.kp (fun i _ e => .inl (.inl e))
      exact (h3.keep hk7 (fun i _ e => .inl (.inr e))).wide (fun i _ hs => by
        rcases hs with hs | hs
        · exact .inl (.inl hs)
        · exact .inr hs)
    · have h1 : AcK w6 (fun i => (brd b r d i ∨ A.map (·.block) = some i) ∨ A7.map (·.block) = some i) y := (h2.ok y hy).wide (fun i hi hs => by
        rcases hs with (hs | hs) | hs
        · have := hfar i hs; exact .inl (by omega)
        · have := hal i hs; exact .inl this
        · rcases hnew i hs with h3 | h3
          · have := hal i h3; exact .inl this
          · omega)
      exact (h1.keep hk7 (fun i _ e => .inl (.inr e))).wide (fun i _ hs => by
        rcases hs with hs | hs
        · exact .inl (.inl hs)
        · exact .inr hs)
  · exact (h.kp.trans h2.kp (fun _ _ e => e)).trans (hk7.wide (T := fun i => w5.heap.size ≤ i) (fun i _ e => h.ba i e)) (fun i hi e => by omega)
  · intro q e
    rcases hnew q e with h3 | h3
    · exact h.ba q h3
    · omega
  · rw [List.map_append, h.val, h2.val, hx]; rfl
def ActLoop (w w5 wr : World) (b r d : Nat) (c : CF) (m : RT) (seed : Int) (q gk : Nat) (u : Value) : Prop := ∃ k A cp la, u = .slice A la.length cp ∧ PAc w w5 wr b r d c m (iterR c m k (AS.start seed)) A cp la ∧ q ≤ (iterR c m k (AS.start seed)).l.length + gk ∧ (iterR c m k (AS.start seed)).l.length ≤ q + 15
section
variable (w : World)
set_option maxRecDepth 100000 in
set_option maxHeartbeats 8000000 in
theorem acts_bad (c : CF) (hm : CM w c) (m : RT) (seed many : Int) (q : Nat) (hv : ¬ vnum c = 0) : Calls Try.prog 22 #[.agg c.cells.toArray, .agg m.cells.toArray, .int .u64 seed, .int .i64 many] w (genPost w c m seed q) := by
  have hb0 := ((Blk.made w 42 c.cells.toArray).alloc (.cells m.cells.toArray 54))
  have hw0 := ((Keep.refl (fun _ => False) w).alloc (.cells c.cells.toArray 42)).alloc (.cells m.cells.toArray 54)
  have HW := hid hw0
  have hb1 := cfc hb0
  have HV := hid (fun W (hk : Same w W) => right_any W c (hm.same hk))
  have hv2 : ((vnum c : Int) != 0) = true := by simpa using hv
  have HG := hid (show GenL c m seed q [] from .inr ⟨hv, rfl⟩)
  clear hb0 hw0 hm hv
  generalize vnum c = vn at *
  obtain ⟨cen, D, cD, dis, E, cE, edg, U, cU, uni, P, cP, pla, h0, h1, h2, h3, h4, h5, h6, h7, h8, h9⟩ := c
  obtain ⟨c0, c1, c2, c3, c4, c5, c6, c7, c8, c9, c10, c11, c12, c13, c14, hg⟩ := hb1
  simp only [CF.cells, RT.cells] at *
  go_enter Try.func22, Try.ntmps22
  go_wp2_with (go_at_call 31; (with_reducible refine (HV.out _ HW.out).mono ?_); rintro e w2 ⟨rfl, hs2⟩; have HS2 := hid hs2; clear hs2)
  go_ret
  exact ⟨none, 0, [], rfl, HG.out, ⟨by simp, by simp⟩, ⟨Sl.nil _ _ _ _, by simp⟩, HW.out.then HS2.out⟩
set_option maxRecDepth 100000 in
set_option maxHeartbeats 8000000 in
theorem acts_ok (c : CF) (hm : CM w c) (m : RT) (seed many : Int) (hs0 : 0 ≤ seed) (hs1 : seed ≤ 18446744073709551615) (hmany : many ≤ 300) (hlo : -9223372036854775808 ≤ many) (hv : vnum c = 0) : Calls Try.prog 22 #[.agg c.cells.toArray, .agg m.cells.toArray, .int .u64 seed, .int .i64 many] w (genPost w c m seed many.toNat) := by
  have hb0 := ((Blk.made w 42 c.cells.toArray).alloc (.cells m.cells.toArray 54))
  have hr0 := Blk.made (w.alloc (.cells c.cells.toArray 42)) 54 m.cells.toArray
  rw [World.size_alloc] at hr0
  have hw0 := ((Keep.refl (fun _ => False) w).alloc (.cells c.cells.toArray 42)).alloc (.cells m.cells.toArray 54)
  have HB0 := hid (fun W (hk : Same ((w.alloc (.cells c.cells.toArray 42)).alloc (.cells m.cells.toArray 54)) W) => cfc (hb0.keep (S := fun _ => False) hk (fun f => f)))
  have HR0 := hid hr0
  have HW := hid hw0
  have hb1 := cfc hb0
  have HV := hid (fun W (hk : Same w W) => right_any W c (hm.same hk))
  obtain ⟨hf, hu⟩ := vnum_ok hv
  have hne := vnum_edg hv
  have HROUND := hid (fun W b r d x (h : RM W b r d c x) h1 h2 => rround_any (m := m) h h1 h2 hf.2.2.1 hf.2.2.2 hf.1 hf.2.1 hu hne)
  have HSTP := hid (fun x => roundM_stp c m x hf.2.2.1 hf.1)
  have HNN := hid (fun k => (iterR_stp c m (AS.start seed) hf.2.2.1 hf.1 k))
  have HFIN := hid (fun W A cp la k q h1 h2 h3 h4 hcp h5 => gen_fin2 (cp := cp) (w := w) (c := c) (m := m) (seed := seed) (W := W) (A := A) (la := la) (k := k) (q := q) hv h1 h2 h3 h4 hcp h5)
  have hcc : 1 ≤ c.cen ∧ c.cen ≤ 9 := ⟨hf.1, hf.2.1⟩
  rw [hv] at HV
  clear hb0 hr0 hw0 hm hv hf hu hne
  obtain ⟨q, hq⟩ : ∃ q : Nat, q = many.toNat := ⟨_, rfl⟩
  obtain ⟨mn, hmn⟩ : ∃ mn : Int, mn = many := ⟨_, rfl⟩
  have hm1 : min many 10000 = mn := by omega
  have hm2 : max mn 0 = (q : Int) := by omega
  have hq3 : q ≤ 300 := by omega
  rw [← hq]
  have HMQ := hid (show ∀ n : Nat, (n : Int) < mn ↔ n < q from fun n => by omega)
  have hmb : mn ≤ 300 := by omega
  clear hq hmn
  obtain ⟨cen, D, cD, dis, E, cE, edg, U, cU, uni, P, cP, pla, h0, h1, h2, h3, h4, h5, h6, h7, h8, h9⟩ := c
  simp only at hcc
  obtain ⟨cn, rfl⟩ : ∃ cn : Nat, cen = cn := ⟨cen.toNat, by omega⟩
  have hcn1 : 1 ≤ cn := by omega
  have hcn9 : cn ≤ 9 := by omega
  clear hcc
  obtain ⟨m0, m1, m2, m3, m4, m5, m6⟩ := m
  obtain ⟨c0, c1, c2, c3, c4, c5, c6, c7, c8, c9, c10, c11, c12, c13, c14, hg⟩ := hb1
  simp only [CF.cells, RT.cells] at *
  have hmk := fun W => EBo.make .i64 .i64 (cn : Int) (cn : Int) (by omega) (by omega) (by omega) (by omega) W
  simp only [Int.toNat_natCast, made_false cn hcn9] at hmk
  go_enter Try.func22, Try.ntmps22
  go_upto_region 5 with (
    go_at_call 31
    (with_reducible refine (HV.out _ HW.out).mono ?_)
    rintro e w2 ⟨rfl, hs2⟩
    have HS2 := hid hs2
    clear hs2)
  clear c0 c1 c2 c3 c4 c5 c6 c7 c8 c9 c10 c11 c12 c13 c14 hg hm1
  obtain ⟨c0, c1, c2, c3, c4, c5, c6, c7, c8, c9, c10, c11, c12, c13, c14, hg⟩ := HB0.out _ HS2.out
  simp only at c0 c1 c2 c3 c4 c5 c6 c7 c8 c9 c10 c11 c12 c13 c14
  have HCF := hid (fun W (hs : Same w2 W) => (cfc_and15 (HB0.out W (HS2.out.then hs)) : W.cell? ⟨w.heap.size, 0, none⟩ = some (.int .i64 (cn : Int)) ∧ W.cell? ⟨w.heap.size, 1, none⟩ = some (.slice D dis.length cD) ∧ W.cell? ⟨w.heap.size, 2, none⟩ = some (.slice E edg.length cE) ∧ W.cell? ⟨w.heap.size, 3, none⟩ = some (.slice U uni.length cU) ∧ W.cell? ⟨w.heap.size, 4, none⟩ = some (.slice P pla.length cP) ∧ W.cell? ⟨w.heap.size, 5, none⟩ = some (.int .i64 h0) ∧ W.cell? ⟨w.heap.size, 6, none⟩ = some (.int .i64 h1) ∧ W.cell? ⟨w.heap.size, 7, none⟩ = some (.int .i64 h2) ∧ W.cell? ⟨w.heap.size, 8, none⟩ = some (.int .i64 h3) ∧ W.cell? ⟨w.heap.size, 9, none⟩ = some (.int .i64 h4) ∧ W.cell? ⟨w.heap.size, 10, none⟩ = some (.int .i64 h5) ∧ W.cell? ⟨w.heap.size, 11, none⟩ = some (.int .i64 h6) ∧ W.cell? ⟨w.heap.size, 12, none⟩ = some (.int .i64 h7) ∧ W.cell? ⟨w.heap.size, 13, none⟩ = some (.int .i64 h8) ∧ W.cell? ⟨w.heap.size, 14, none⟩ = some (.int .i64 h9)))
  have HR2 := hid (HR0.out.keep HS2.out (fun f => f))
  have HW2 := hid (HW.out.then HS2.out)
  have hw2s : w.heap.size + 2 ≤ w2.heap.size := by have := HS2.out.size; simp only [World.size_alloc] at this; omega
  generalize hBL : (((List.replicate 9 false).take cn).map Value.bool).toArray = bl at *
  have HBL := hid hBL
  clear hBL
  go_cut [10] from 17 to 25 (fun u w' => ∃ b r d : Nat, u = .pointer (some ⟨b, 0, none⟩) ∧ Hid (RM w' b r d ⟨(cn : Int), D, cD, dis, E, cE, edg, U, cU, uni, P, cP, pla, h0, h1, h2, h3, h4, h5, h6, h7, h8, h9⟩ (AS.start seed) ∧ w.heap.size ≤ b ∧ w.heap.size ≤ r ∧ w.heap.size ≤ d ∧ w.heap.size + 1 < b ∧ w.heap.size + 1 < r ∧ w.heap.size + 1 < d ∧ Same w2 w'))
  case first =>
    go_region_held3 (fun W => W.cell? ⟨w.heap.size, 0, none⟩ = some (.int .i64 (cn : Int)) ∧ W.cell? ⟨w.heap.size, 1, none⟩ = some (.slice D dis.length cD) ∧ W.cell? ⟨w.heap.size, 2, none⟩ = some (.slice E edg.length cE) ∧ W.cell? ⟨w.heap.size, 3, none⟩ = some (.slice U uni.length cU) ∧ W.cell? ⟨w.heap.size, 4, none⟩ = some (.slice P pla.length cP) ∧ W.cell? ⟨w.heap.size, 5, none⟩ = some (.int .i64 h0) ∧ W.cell? ⟨w.heap.size, 6, none⟩ = some (.int .i64 h1) ∧ W.cell? ⟨w.heap.size, 7, none⟩ = some (.int .i64 h2) ∧ W.cell? ⟨w.heap.size, 8, none⟩ = some (.int .i64 h3) ∧ W.cell? ⟨w.heap.size, 9, none⟩ = some (.int .i64 h4) ∧ W.cell? ⟨w.heap.size, 10, none⟩ = some (.int .i64 h5) ∧ W.cell? ⟨w.heap.size, 11, none⟩ = some (.int .i64 h6) ∧ W.cell? ⟨w.heap.size, 12, none⟩ = some (.int .i64 h7) ∧ W.cell? ⟨w.heap.size, 13, none⟩ = some (.int .i64 h8) ∧ W.cell? ⟨w.heap.size, 14, none⟩ = some (.int .i64 h9))
      (first | with_reducible exact ⟨c0, c1, c2, c3, c4, c5, c6, c7, c8, c9, c10, c11, c12, c13, c14⟩ | with_reducible exact HCF.out _ (Keep.refl _ _).drew | with_reducible exact HCF.out _ ((Keep.refl _ _).alloc _).drew | with_reducible exact HCF.out _ (((Keep.refl _ _).alloc _).alloc _).drew | with_reducible exact HCF.out _ ((((Keep.refl _ _).alloc _).alloc _).alloc _).drew)
      (fail)
    all_goals
      go_wp2_with fail
      go_meet
      first
        | (have hbA := (Blk.made ((w2.alloc (.cells #[.int .u64 seed] 33)).alloc (.cells bl 4)) 76 #[.pointer (some ⟨w2.heap.size, 0, none⟩), .int .i64 (cn : Int), .slice D dis.length cD, .slice E edg.length cE, .slice U uni.length cU, .slice P pla.length cP, .int .i64 h0, .int .i64 h1, .int .i64 h2, .int .i64 h3, .int .i64 h4, .int .i64 h5, .int .i64 h6, .int .i64 h7, .int .i64 h8, .int .i64 h9, .int .i64 0, .bool false, .slice (some ⟨w2.heap.size + 1, 0, none⟩) cn cn]).drew
           have hdA := ((Blk.made (w2.alloc (.cells #[.int .u64 seed] 33)) 4 bl).alloc (.cells #[.pointer (some ⟨w2.heap.size, 0, none⟩), .int .i64 (cn : Int), .slice D dis.length cD, .slice E edg.length cE, .slice U uni.length cU, .slice P pla.length cP, .int .i64 h0, .int .i64 h1, .int .i64 h2, .int .i64 h3, .int .i64 h4, .int .i64 h5, .int .i64 h6, .int .i64 h7, .int .i64 h8, .int .i64 h9, .int .i64 0, .bool false, .slice (some ⟨w2.heap.size + 1, 0, none⟩) cn cn] 76)).drew
           simp only [World.size_alloc] at hbA hdA
           exact ⟨_, w2.heap.size, w2.heap.size + 1, rfl, hid ⟨RM.start rfl hbA ((Gn.new hs0 hs1).keep ((((Keep.refl (fun _ => False) _).alloc _).alloc _).drew) (fun f => f)) (by rw [HBL.out]; exact hdA) (by omega) (by omega) (by omega), by omega, by omega, by omega, by omega, by omega, by omega, (((Keep.refl _ _).alloc _).alloc _).alloc _ |>.drew⟩⟩)
        | (have hbA := (Blk.made ((w2.alloc (.cells bl 4)).alloc (.cells #[.int .u64 seed] 33)) 76 #[.pointer (some ⟨w2.heap.size + 1, 0, none⟩), .int .i64 (cn : Int), .slice D dis.length cD, .slice E edg.length cE, .slice U uni.length cU, .slice P pla.length cP, .int .i64 h0, .int .i64 h1, .int .i64 h2, .int .i64 h3, .int .i64 h4, .int .i64 h5, .int .i64 h6, .int .i64 h7, .int .i64 h8, .int .i64 h9, .int .i64 0, .bool false, .slice (some ⟨w2.heap.size, 0, none⟩) cn cn]).drew
           have hrA := ((Gn.new (w := w2.alloc (.cells bl 4)) (t := 33) hs0 hs1).keep (((Keep.refl (fun _ => False) _).alloc (.cells #[.pointer (some ⟨w2.heap.size + 1, 0, none⟩), .int .i64 (cn : Int), .slice D dis.length cD, .slice E edg.length cE, .slice U uni.length cU, .slice P pla.length cP, .int .i64 h0, .int .i64 h1, .int .i64 h2, .int .i64 h3, .int .i64 h4, .int .i64 h5, .int .i64 h6, .int .i64 h7, .int .i64 h8, .int .i64 h9, .int .i64 0, .bool false, .slice (some ⟨w2.heap.size, 0, none⟩) cn cn] 76)).drew) (fun f => f))
           have hdA := (((Blk.made w2 4 bl).alloc (.cells #[.int .u64 seed] 33)).alloc (.cells #[.pointer (some ⟨w2.heap.size + 1, 0, none⟩), .int .i64 (cn : Int), .slice D dis.length cD, .slice E edg.length cE, .slice U uni.length cU, .slice P pla.length cP, .int .i64 h0, .int .i64 h1, .int .i64 h2, .int .i64 h3, .int .i64 h4, .int .i64 h5, .int .i64 h6, .int .i64 h7, .int .i64 h8, .int .i64 h9, .int .i64 0, .bool false, .slice (some ⟨w2.heap.size, 0, none⟩) cn cn] 76)).drew
           simp only [World.size_alloc] at hbA hrA
           exact ⟨_, w2.heap.size + 1, w2.heap.size, rfl, hid ⟨RM.start rfl hbA hrA (by rw [HBL.out]; exact hdA) (by omega) (by omega) (by omega), by omega, by omega, by omega, by omega, by omega, by omega, (((Keep.refl _ _).alloc _).alloc _).alloc _ |>.drew⟩⟩)
  case rest =>
    obtain ⟨b, r, d, rfl, hc⟩ := hcut
    obtain ⟨hm5, hb1, hr1, hd1, hb2, hr2, hd2, hs5⟩ := hc.out
    clear hc HCF hmk HBL
    clear c0 c1 c2 c3 c4 c5 c6 c7 c8 c9 c10 c11 c12 c13 c14 hg
    have HLT := hid hm5.lts
    have HSW := hid (HW2.out.then hs5)
    have HMB := hid (HR2.out.keep hs5 (fun f => f))
    have HP0 := hid (show ActLoop w wc wc b r d ⟨(cn : Int), D, cD, dis, E, cE, edg, U, cU, uni, P, cP, pla, h0, h1, h2, h3, h4, h5, h6, h7, h8, h9⟩ ⟨m0, m1, m2, m3, m4, m5, m6⟩ seed q q (.slice none 0 0) from
      ⟨0, none, 0, [], rfl, PAc.start hm5, by omega, by simp [iterR, AS.start]⟩)
    have hws := hs5.size
    clear hm5 hs5
    obtain ⟨w5, hw5⟩ : ∃ v, v = wc := ⟨_, rfl⟩
    subst hw5
    go_wp2_with fail
    go_loopg [9] q (fun gk u wr => Hid (ActLoop w w5 wr b r d ⟨(cn : Int), D, cD, dis, E, cE, edg, U, cU, uni, P, cP, pla, h0, h1, h2, h3, h4, h5, h6, h7, h8, h9⟩ ⟨m0, m1, m2, m3, m4, m5, m6⟩ seed q gk u))
    case atStart => exact HP0
    case round =>
      obtain ⟨k, A, cp, la, hu, hP, hk1, hk2⟩ := hrel.out
      subst hu
      have HP := hid hP
      have hlv : la.length = (iterR ⟨(cn : Int), D, cD, dis, E, cE, edg, U, cU, uni, P, cP, pla, h0, h1, h2, h3, h4, h5, h6, h7, h8, h9⟩ ⟨m0, m1, m2, m3, m4, m5, m6⟩ k (AS.start seed)).l.length := by rw [← hP.val]; simp
      clear hrel hP HP0
      have hst := HSTP.out (iterR ⟨(cn : Int), D, cD, dis, E, cE, edg, U, cU, uni, P, cP, pla, h0, h1, h2, h3, h4, h5, h6, h7, h8, h9⟩ ⟨m0, m1, m2, m3, m4, m5, m6⟩ k (AS.start seed))
      obtain ⟨n, hnn⟩ := HNN.out k
      have HIT := hid (show iterR ⟨(cn : Int), D, cD, dis, E, cE, edg, U, cU, uni, P, cP, pla, h0, h1, h2, h3, h4, h5, h6, h7, h8, h9⟩ ⟨m0, m1, m2, m3, m4, m5, m6⟩ (k + 1) (AS.start seed) = roundM ⟨(cn : Int), D, cD, dis, E, cE, edg, U, cU, uni, P, cP, pla, h0, h1, h2, h3, h4, h5, h6, h7, h8, h9⟩ ⟨m0, m1, m2, m3, m4, m5, m6⟩ (iterR ⟨(cn : Int), D, cD, dis, E, cE, edg, U, cU, uni, P, cP, pla, h0, h1, h2, h3, h4, h5, h6, h7, h8, h9⟩ ⟨m0, m1, m2, m3, m4, m5, m6⟩ k (AS.start seed)) from rfl)
      have HFK := hid (fun W A cp la => HFIN.out W A cp la k q)
      have HNL := hid (roundM_noL (iterR ⟨(cn : Int), D, cD, dis, E, cE, edg, U, cU, uni, P, cP, pla, h0, h1, h2, h3, h4, h5, h6, h7, h8, h9⟩ ⟨m0, m1, m2, m3, m4, m5, m6⟩ k (AS.start seed)) ⟨(cn : Int), D, cD, dis, E, cE, edg, U, cU, uni, P, cP, pla, h0, h1, h2, h3, h4, h5, h6, h7, h8, h9⟩ ⟨m0, m1, m2, m3, m4, m5, m6⟩)
      have hdi : 0 ≤ (iterR ⟨(cn : Int), D, cD, dis, E, cE, edg, U, cU, uni, P, cP, pla, h0, h1, h2, h3, h4, h5, h6, h7, h8, h9⟩ ⟨m0, m1, m2, m3, m4, m5, m6⟩ k (AS.start seed)).di ∧ (iterR ⟨(cn : Int), D, cD, dis, E, cE, edg, U, cU, uni, P, cP, pla, h0, h1, h2, h3, h4, h5, h6, h7, h8, h9⟩ ⟨m0, m1, m2, m3, m4, m5, m6⟩ k (AS.start seed)).di ≤ (iterR ⟨(cn : Int), D, cD, dis, E, cE, edg, U, cU, uni, P, cP, pla, h0, h1, h2, h3, h4, h5, h6, h7, h8, h9⟩ ⟨m0, m1, m2, m3, m4, m5, m6⟩ k (AS.start seed)).l.length := by
        obtain ⟨t, t1, _, t3, _⟩ := hnn
        have a1 := dials_nn t
        have a2 := dials_le t
        rw [t1, t3]
        simp [AS.start]; omega
      clear hnn
      generalize iterR ⟨(cn : Int), D, cD, dis, E, cE, edg, U, cU, uni, P, cP, pla, h0, h1, h2, h3, h4, h5, h6, h7, h8, h9⟩ ⟨m0, m1, m2, m3, m4, m5, m6⟩ k (AS.start seed) = x at *
      have HLV := hid hlv
      have hle1 : la.length ≤ x.l.length := by omega
      have hle2 : x.l.length ≤ la.length := by omega
      clear hlv
      by_cases hlt : la.length < q
      · have hlm : (la.length : Int) < mn := (HMQ.out la.length).2 hlt
        obtain ⟨hsp, hgr⟩ := hst
        have hln := hsp.len
        have HR := hid (HROUND.out _ _ _ _ _ HP.out.rm hdi.1 (by omega))
        have HMC := hid (HMB.out.keep HP.out.kp (fun e => by rcases e with e | e | e <;> omega))
        have n0 := HMC.out.at_ 0
        have n1 := HMC.out.at_ 1
        have n2 := HMC.out.at_ 2
        have n3 := HMC.out.at_ 3
        have n4 := HMC.out.at_ 4
        have n5 := HMC.out.at_ 5
        have n6 := HMC.out.at_ 6
        have nl := HMC.out.lt
        clear hsp hdi
        go_wp2_with (first
          | (
            go_at_call 34
            (with_reducible refine HR.out.mono ?_)
            rintro e w6 ⟨A2, cp2, la2, rfl, hr6⟩
            have HR6 := hid hr6
            have hl2 : la2.length ≤ 400 := by
              have ee1 := hr6.len
              have ee2 := HNL.out
              rw [ee2] at hln
              have ee3 : (AS.pre x.l (roundM ⟨(cn : Int), D, cD, dis, E, cE, edg, U, cU, uni, P, cP, pla, h0, h1, h2, h3, h4, h5, h6, h7, h8, h9⟩ ⟨m0, m1, m2, m3, m4, m5, m6⟩ x.noL)).l.length = x.l.length + (roundM ⟨(cn : Int), D, cD, dis, E, cE, edg, U, cU, uni, P, cP, pla, h0, h1, h2, h3, h4, h5, h6, h7, h8, h9⟩ ⟨m0, m1, m2, m3, m4, m5, m6⟩ x.noL).l.length := by simp [AS.pre]
              omega
            clear hr6 n0 n1 n2 n3 n4 n5 n6 nl)
          | (
            at_builtin
            refine EAc.law2 (.tmp 30) (.tmp 33) (.slice A la.length cp) A2 la2.length cp2 rfl rfl rfl rfl 0 la.length (accells la) (accells la2) (la.length + la2.length) (accells la ++ accells la2) rfl rfl (HP.out.own.keepB HR6.out.kp (fun q hq e => by rw [ownB] at hq; have ee1 := HP.out.ba q hq; have ee2 := HLT.out; rcases e with e | e | e <;> omega)) (flat_len AC.cells 8 (fun _ => rfl) la2) (Sl.src (HR6.out.own.sl (Av := fun _ => False) (fun _ _ f => f)) (Keep.refl _ _)) (accells_one la2) (by omega) (by unfold maxLen; omega) (Nat.zero_le _) ?_
            intro A7 c7 w7 ho7 hg7 hw7
            have HP7 := hid (HP.out.push HR6.out HNL.out ho7 hg7 hw7 HLT.out)
            clear ho7 hg7 hw7))
        go_roundg (q - (roundM ⟨(cn : Int), D, cD, dis, E, cE, edg, U, cU, uni, P, cP, pla, h0, h1, h2, h3, h4, h5, h6, h7, h8, h9⟩ ⟨m0, m1, m2, m3, m4, m5, m6⟩ x).l.length)
        case measure => omega
        case rel => exact hid ⟨k + 1, A7, c7, la ++ la2, by simp, by rw [HIT.out]; exact HP7.out, by rw [HIT.out]; omega, by rw [HIT.out]; omega⟩
      · have hge : q ≤ la.length := by omega
        have hlm : ¬ (la.length : Int) < mn := fun h => hlt ((HMQ.out la.length).1 h)
        have hcap : la.length ≤ cp := HP.out.own.cap
        have hcap2 : q ≤ cp := by omega
        have hQ := hid (HFK.out wr A cp la ⟨HP.out.own.sl (fun _ _ f => f), fun a ha => (HP.out.ok a ha).ok⟩ HP.out.val hge (by omega) hcap2 (HSW.out.trans HP.out.kp (fun i hi e => by rcases e with e | e | e <;> omega)))
        go_wp2_with fail
        go_ret
        exact hQ.out
end
end Go.Proofs.Ytnejacmmbfeneaa

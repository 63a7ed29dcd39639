import Derived.Test.YtnejacmmbfeneaaGenG
import Derived.Test.YtnejacmmbfeneaaGenF
namespace Go.Proofs.Ytnejacmmbfeneaa
open Go.RowKit Go.PlainAid

/-! ## What a round adds (plain) -/
def okNodes (nd : Int) (l : List Int) : Prop := (∀ n ∈ l, 0 ≤ n ∧ n < nd) ∧ (∀ (i : Nat) (a b : Int), l[i]? = some a → l[i + 1]? = some b → a < b)
/-- an action that refers to what is there; d: the calls so far, this one too -/
def okA (c : CF) (d : Int) (a : AV) : Prop :=
  (a.kind = 1 ∧ 0 ≤ a.node ∧ a.node < c.dis.length ∧ ∃ k l, a.src = [(k, l)] ∧ okNodes c.dis.length l) ∨ ((a.kind = 2 ∨ a.kind = 3) ∧ 1 ≤ a.call ∧ a.call ≤ d) ∨ (a.kind = 8 ∧ a.grp.length = (placesN c).toNat) ∨
  ((a.kind = 10 ∨ a.kind = 11 ∨ a.kind = 17) ∧ 0 ≤ a.who ∧ a.who < c.cen) ∨ (a.kind = 14 ∧ 0 ≤ a.who ∧ a.who < c.cen ∧ 0 ≤ a.call ∧ a.call < c.edg.length) ∨ ((a.kind = 12 ∨ a.kind = 13) ∧ 0 ≤ a.who ∧ a.who < c.uni.length) ∨
  (a.kind = 4 ∨ a.kind = 5 ∨ a.kind = 6 ∨ a.kind = 7 ∨ a.kind = 9)
def dials : List AV → Int
  | [] => 0
  | a :: l => (if a.kind = 1 then 1 else 0) + dials l
def good (c : CF) (d : Int) : List AV → Prop
  | [] => True
  | a :: l => okA c (d + if a.kind = 1 then 1 else 0) a ∧ good c (d + if a.kind = 1 then 1 else 0) l
theorem dials_append (l m : List AV) : dials (l ++ m) = dials l + dials m := by
  induction l with
  | nil => simp [dials]
  | cons a l ih => simp only [List.cons_append, dials, ih]; omega
theorem dials_nn (l : List AV) : 0 ≤ dials l := by
  induction l with
  | nil => simp [dials]
  | cons a l ih => simp only [dials]; split <;> omega
theorem dials_le (l : List AV) : dials l ≤ l.length := by
  induction l with
  | nil => simp [dials]
  | cons a l ih => simp only [dials, List.length_cons]; split <;> omega
theorem good_append {c : CF} {d : Int} {l m : List AV} (h1 : good c d l) (h2 : good c (d + dials l) m) : good c d (l ++ m) := by
  induction l generalizing d with
  | nil => simpa [dials] using h2
  | cons a l ih =>
    refine ⟨h1.1, ih h1.2 ?_⟩
    have e : d + dials (a :: l) = (d + if a.kind = 1 then 1 else 0) + dials l := by simp only [dials]; omega
    rw [← e]; exact h2
/-- from x to y: at most n actions more, each good -/
def Stp (c : CF) (n : Nat) (x y : AS) : Prop := ∃ t, y.l = x.l ++ t ∧ t.length ≤ n ∧ y.di = x.di + dials t ∧ good c x.di t
section
variable {c : CF} {n k : Nat} {x y z : AS}
theorem Stp.refl (c : CF) (x : AS) : Stp c 0 x x := ⟨[], by simp, Nat.le_refl _, by simp [dials], trivial⟩
theorem Stp.of (hl : y.l = x.l) (hd : y.di = x.di) : Stp c 0 x y := ⟨[], by simp [hl], Nat.le_refl _, by simp [dials, hd], trivial⟩
theorem Stp.draw (c : CF) (x : AS) (n : Int) : Stp c 0 x (x.draw n) := .of rfl rfl
theorem Stp.trans (h1 : Stp c n x y) (h2 : Stp c k y z) : Stp c (n + k) x z := by
  obtain ⟨t, a1, a2, a3, a4⟩ := h1
  obtain ⟨u, b1, b2, b3, b4⟩ := h2
  refine ⟨t ++ u, by rw [b1, a1, List.append_assoc], by rw [List.length_append]; omega, by rw [b3, a3, dials_append]; omega, good_append a4 (by rw [← a3]; exact b4)⟩
theorem Stp.mono (h : Stp c n x y) (hk : n ≤ k) : Stp c k x y := by
  obtain ⟨t, a1, a2, a3, a4⟩ := h
  exact ⟨t, a1, by omega, a3, a4⟩
theorem Stp.add {a : AV} (hk : a.kind ≠ 1) (h : okA c x.di a) : Stp c 1 x (x.add a) :=
  ⟨[a], rfl, Nat.le_refl _, by simp [dials, hk, AS.add], by simp [good, hk, h]⟩
theorem Stp.len (h : Stp c n x y) : x.l.length ≤ y.l.length ∧ y.l.length ≤ x.l.length + n ∧ x.di ≤ y.di ∧ y.di ≤ x.di + n := by
  obtain ⟨t, a1, a2, a3, _⟩ := h
  have := dials_nn t
  have := dials_le t
  rw [a1, a3, List.length_append]; omega
end
theorem pair_ok {nd n m : Int} (h0 : 0 ≤ n) (h1 : n < nd) (g0 : 0 ≤ m) (g1 : m < nd) : okNodes nd (pair n m) := by
  unfold pair
  split
  · refine ⟨by simp; omega, fun i a b ha hb => ?_⟩
    obtain rfl | h : i = 0 ∨ 1 ≤ i := by omega
    · simp at ha hb; omega
    · have := (List.getElem?_eq_some_iff.1 hb).1; simp at this; omega
  · split
    · refine ⟨by simp; omega, fun i a b ha hb => ?_⟩
      obtain rfl | h : i = 0 ∨ 1 ≤ i := by omega
      · simp at ha hb; omega
      · have := (List.getElem?_eq_some_iff.1 hb).1; simp at this; omega
    · refine ⟨by simp; omega, fun i a b ha hb => ?_⟩
      have := (List.getElem?_eq_some_iff.1 hb).1; simp at this
theorem srcM_ok {nd n : Int} (x : AS) (h0 : 0 ≤ n) (h1 : n < nd) : okNodes nd (srcM nd n x).1 := by
  unfold srcM
  obtain ⟨g0, g1⟩ := roll_in nd (x.draw 2).s (by omega)
  split
  · exact pair_ok h0 h1 g0 g1
  · refine ⟨by simp; omega, fun i a b ha hb => ?_⟩
    have := (List.getElem?_eq_some_iff.1 hb).1; simp at this
section
variable (c : CF) (x : AS) (rate : Int)
theorem stp_dial {c : CF} {x y : AS} {n k : Int} {l : List Int} (hl : y.l = x.l) (hd : y.di = x.di) (h0 : 0 ≤ n) (h1 : n < c.dis.length) (ho : okNodes c.dis.length l) : Stp c 1 x (y.dial.add ⟨1, 0, 0, 0, 0, n, [(k, l)], []⟩) :=
  ⟨[⟨1, 0, 0, 0, 0, n, [(k, l)], []⟩], by rw [AS.add_l, AS.dial_l, hl], Nat.le_refl _, by rw [AS.add_di, AS.dial_di, hd]; simp [dials], .inl ⟨rfl, h0, h1, _, _, rfl, ho⟩, trivial⟩
theorem dialM_eq (nd : Int) (x : AS) : dialM nd x = (srcM nd (roll nd x.s) ((x.draw nd).draw 3)).2.dial.add ⟨1, 0, 0, 0, 0, roll nd x.s, [(1 + roll 3 (x.draw nd).s, (srcM nd (roll nd x.s) ((x.draw nd).draw 3)).1)], []⟩ := by rw [dialM]
theorem b1M_stp (h : 1 ≤ (c.dis.length : Int)) : Stp c 1 x (b1M c.dis.length rate x) := by
  unfold b1M
  split
  · rw [dialM_eq]
    obtain ⟨g0, g1⟩ := roll_in c.dis.length (x.draw 100).s h
    exact stp_dial (by rw [srcM_l, AS.draw_l, AS.draw_l, AS.draw_l]) (by rw [srcM_di, AS.draw_di, AS.draw_di, AS.draw_di]) g0 g1 (srcM_ok _ g0 g1)
  · exact (Stp.draw c x 100).mono (by omega)
theorem b2M_stp : Stp c 1 x (b2M x) := by
  unfold b2M
  split
  · rename_i hd
    split
    · obtain ⟨g0, g1⟩ := roll_in x.di (x.draw 2).s (by omega)
      exact (((Stp.draw c x 2).trans (Stp.draw c _ x.di)).trans (Stp.draw c _ 3)).trans (Stp.add (by simp) (.inr (.inl ⟨.inl rfl, by simp only; omega, by rw [AS.draw_di, AS.draw_di, AS.draw_di]; simp only; omega⟩)))
    · exact (Stp.draw c x 2).mono (by omega)
  · exact (Stp.refl c x).mono (by omega)
theorem b3M_stp : Stp c 1 x (b3M x) := by
  unfold b3M
  split
  · rename_i hd
    split
    · obtain ⟨g0, g1⟩ := roll_in x.di (x.draw 20).s (by omega)
      exact ((Stp.draw c x 20).trans (Stp.draw c _ x.di)).trans (Stp.add (by simp) (.inr (.inl ⟨.inr rfl, by simp only; omega, by rw [AS.draw_di, AS.draw_di]; simp only; omega⟩)))
    · exact (Stp.draw c x 20).mono (by omega)
  · exact (Stp.refl c x).mono (by omega)
theorem iterM_stp : ∀ k, Stp c k x (iterM k x)
  | 0 => .refl c x
  | k + 1 => (iterM_stp k).trans (((Stp.draw c _ 8).trans (Stp.add (by simp) (by simp [okA]))).mono (by omega))
theorem evM_stp (kind : Int) (hk : kind = 6 ∨ kind = 7) : Stp c 1 x (evM kind rate x) := by
  unfold evM
  split
  · exact ((Stp.draw c x 100).trans (Stp.draw c _ 8)).trans (Stp.add (by rcases hk with rfl | rfl <;> simp) (by rcases hk with rfl | rfl <;> simp [okA]))
  · exact (Stp.draw c x 100).mono (by omega)
theorem Stp.flip {n : Nat} {x y : AS} (h : Stp c n x y) : Stp c n x y.flip := h
theorem Stp.crash {n : Nat} {x y : AS} (h : Stp c n x y) (k : Nat) : Stp c n x (y.crash k) := h
theorem splitM_stp : Stp c 1 x (splitM (placesN c).toNat rate x) := by
  unfold splitM
  split
  · split
    · exact ((Stp.draw c x 100).trans (Stp.add (by simp) (by simp [okA]))).flip
    · have hr := grpM_rest (x.draw 100) (placesN c).toNat
      have h1 : Stp c 0 x (grpM (placesN c).toNat (x.draw 100)).2 := by rw [hr]; exact .of rfl rfl
      exact (h1.trans (Stp.add (by simp) (.inr (.inr (.inl ⟨rfl, grpM_len _ _⟩))))).flip
  · exact (Stp.draw c x 100).mono (by omega)
theorem netM_stp (m : RT) : Stp c 6 x (netM (placesN c).toNat m x) :=
  (((iterM_stp c x 3).trans (evM_stp c _ _ 6 (.inl rfl))).trans (evM_stp c _ _ 7 (.inr rfl))).trans (splitM_stp c _ _)
theorem crashM_stp (k : Nat) (hk : (k : Int) < c.cen) : Stp c 1 x (crashM k x) := by
  unfold crashM
  split
  · exact (Stp.add (by simp) (by simp [okA]; omega)).crash _ _
  · exact ((Stp.draw c x 64).trans (Stp.add (by simp) (by simp [okA]; omega))).crash _ _
theorem f1M_stp (h : 1 ≤ c.cen) : Stp c 1 x (f1M c.cen rate x) := by
  unfold f1M
  obtain ⟨g0, g1⟩ := roll_in c.cen (x.draw 100).s h
  split
  · exact ((Stp.draw c x 100).trans (Stp.draw c _ c.cen)).trans (crashM_stp c _ _ (by omega))
  · exact (Stp.draw c x 100).mono (by omega)
theorem roadM_stp (who call : Int) (h0 : 0 ≤ who) (h1 : who < c.cen) (g0 : 0 ≤ call) (g1 : call < c.edg.length) : Stp c 1 x (roadM who call x) := by
  unfold roadM
  split
  · exact (Stp.draw c x 4).trans (Stp.add (by simp) (by simp [okA]; omega))
  · exact ((Stp.draw c x 4).trans (Stp.draw c _ 20)).trans (Stp.add (by simp) (by simp [okA]; omega))
theorem f2M_stp (h : 1 ≤ c.cen) : Stp c 1 x (f2M c.cen c.edg.length rate x) := by
  unfold f2M
  obtain ⟨g0, g1⟩ := roll_in c.cen (x.draw 100).s h
  split
  · split
    · obtain ⟨e0, e1⟩ := roll_in c.edg.length ((x.draw 100).draw c.cen).s (by omega)
      exact (((Stp.draw c x 100).trans (Stp.draw c _ c.cen)).trans (Stp.draw c _ c.edg.length)).trans (roadM_stp c _ _ _ g0 g1 e0 e1)
    · exact (Stp.draw c x 100).mono (by omega)
  · exact (Stp.draw c x 100).mono (by omega)
theorem c1M_stp : Stp c 1 x (c1M c.uni.length x) := by
  unfold c1M
  split
  · obtain ⟨g0, g1⟩ := roll_in c.uni.length (x.draw 2).s (by omega)
    split
    · exact ((Stp.draw c x 2).trans (Stp.draw c _ c.uni.length)).trans (Stp.add (by simp) (by simp [okA]; omega))
    · exact (Stp.draw c x 2).mono (by omega)
  · exact (Stp.refl c x).mono (by omega)
theorem c2M_stp : Stp c 1 x (c2M c.uni.length rate x) := by
  unfold c2M
  split
  · split
    · obtain ⟨g0, g1⟩ := roll_in c.uni.length (x.draw 100).s (by omega)
      exact ((Stp.draw c x 100).trans (Stp.draw c _ c.uni.length)).trans (Stp.add (by simp) (by simp [okA]; omega))
    · exact (Stp.draw c x 100).mono (by omega)
  · exact (Stp.draw c x 100).mono (by omega)
theorem c3M_stp (h : 1 ≤ c.cen) : Stp c 1 x (c3M c.cen x) := by
  unfold c3M
  obtain ⟨g0, g1⟩ := roll_in c.cen (x.draw 10).s h
  split
  · exact (((Stp.draw c x 10).trans (Stp.draw c _ c.cen)).trans (Stp.draw c _ 20)).trans (Stp.add (by simp) (by simp [okA]; omega))
  · exact (Stp.draw c x 10).mono (by omega)
end
def tickA : AV := ⟨4, 0, 0, 0, 0, 0, [], []⟩
def r1M (c : CF) (m : RT) (x : AS) : AS := b3M (b2M (b1M c.dis.length m.a0 (x.add tickA)))
def r2M (c : CF) (m : RT) (x : AS) : AS := netM (placesN c).toNat m x
def r3M (c : CF) (m : RT) (x : AS) : AS := f2M c.cen c.edg.length m.a5 (f1M c.cen m.a4 x)
def r4M (c : CF) (m : RT) (x : AS) : AS := c3M c.cen (c2M c.uni.length m.a6 (c1M c.uni.length x))
def roundM (c : CF) (m : RT) (x : AS) : AS := r4M c m (r3M c m (r2M c m (r1M c m x)))
theorem roundM_stp (c : CF) (m : RT) (x : AS) (hd : 1 ≤ (c.dis.length : Int)) (hc : 1 ≤ c.cen) : Stp c 15 x (roundM c m x) ∧ x.l.length < (roundM c m x).l.length := by
  have h0 : Stp c 1 x (x.add tickA) := Stp.add (by simp [tickA]) (by simp [okA, tickA])
  have h1 : Stp c 14 (x.add tickA) (roundM c m x) :=
    ((((((((b1M_stp c _ _ hd).trans (b2M_stp c _)).trans (b3M_stp c _)).trans (netM_stp c _ m)).trans (f1M_stp c _ _ hc)).trans (f2M_stp c _ _ hc)).trans (c1M_stp c _)).trans (c2M_stp c _ _)).trans (c3M_stp c _ hc)
  refine ⟨h0.trans h1, ?_⟩
  have := h1.len.1
  have e : (x.add tickA).l.length = x.l.length + 1 := by simp [AS.add]
  omega
section
variable {B : Nat} {w : World} {g r : Nat} {c : CF} {m : RT} {x : AS} {A : Option Addr} {cp : Nat} {la : List AC}
set_option maxRecDepth 100000 in
set_option maxHeartbeats 8000000 in
theorem round_any (h : GI B w g r c m x A cp la) (hw : B ≤ w.heap.size) (hl : x.l.length ≤ 90000) (hd0 : 0 ≤ x.di) (hd1 : x.di ≤ 90000) (hc : 1 ≤ (c.dis.length : Int)) (hc2 : (c.dis.length : Int) ≤ 4096) (hc3 : 1 ≤ c.cen) (hc4 : c.cen ≤ 9) (hu : (c.uni.length : Int) ≤ 256) (hne : (c.edg.length : Int) ≤ 9223372036854775807) : Calls Try.prog 33 #[.pointer (some ⟨g, 0, none⟩)] w (StepPost B w g r c m (roundM c m x)) := by
  have HI := hid h
  have HKB := hid (Keep.refl (B ≤ ·) w)
  have HNE := hid hne
  clear h hne
  have s0 : Stp c 1 x (x.add tickA) := Stp.add (by simp [tickA]) (by simp [okA, tickA])
  have s1 : Stp c 3 (x.add tickA) (r1M c m x) := ((b1M_stp c _ _ hc).trans (b2M_stp c _)).trans (b3M_stp c _)
  have s2 : Stp c 6 (r1M c m x) (r2M c m (r1M c m x)) := netM_stp c _ m
  have s3 : Stp c 2 (r2M c m (r1M c m x)) (r3M c m (r2M c m (r1M c m x))) := (f1M_stp c _ _ hc3).trans (f2M_stp c _ _ hc3)
  have l0 := s0.len
  have l1 := s1.len
  have l2 := s2.len
  have l3 := s3.len
  clear s0 s1 s2 s3
  obtain ⟨q0, q1, q2, q3, q4, r0, r1, r2, r3, r4, r5, r6, qd, qs, ql, qf, qg⟩ := HI.out.gm.gc
  go_enter Try.func33, Try.ntmps33
  go_upto_region 1 with (
    go_at_call 47
    have hadd := add_any HI.out.gm (plA 4 0 0 0 0 0) (plA_ok _ _ _ _ _ _ _ _) (by rw [HI.out.len]; (try simp only [AS.add_l, AS.draw_l, List.length_append, List.length_singleton]); omega)
    rw [plA_cells] at hadd
    (with_reducible refine hadd.mono ?_)
    rintro e u1 ⟨rfl, ⟨A9, cp9, hg9, hq9⟩, hk9⟩
    have HI2 := hid (HI.out.added (Nat.le_trans hw HKB.out.size) hg9 hk9 hq9 (plA_val _ _ _ _ _ _))
    have HKB2 := hid (HKB.out.trans (HI.out.keepA hk9) (fun _ _ e => e))
    clear hg9 hq9 hk9 hadd HI HKB
    have HI := HI2
    have HKB := HKB2
    clear HI2 HKB2
    clear q0 q1 q2 q3 q4 r0 r1 r2 r3 r4 r5 r6 qd qs ql qf qg
    obtain ⟨q0, q1, q2, q3, q4, r0, r1, r2, r3, r4, r5, r6, qd, qs, ql, qf, qg⟩ := HI.out.gm.gc
    try simp only [AS.draw_di, AS.add_di] at qd)
  have HI9 : Hid (GI B u1 g r c m (x.add tickA) _ _ _) := hid HI.out
  clear HI
  have HI := HI9
  clear HI9
  go_upto_region 2 with (
    go_at_call 48
    (with_reducible refine (callers_any HI.out (Nat.le_trans hw HKB.out.size) (by omega) (by omega) (by omega) hc hc2).mono ?_)
    rintro e u2 ⟨rfl, ⟨A0, cp0, la0, hI9⟩, hk9⟩
    have HI2 : Hid (GI B u2 g r c m (r1M c m x) A0 cp0 la0) := hid hI9
    have HKB2 := hid (HKB.out.trans hk9 (fun _ _ e => e))
    clear hI9 hk9 HI HKB
    have HI := HI2
    have HKB := HKB2
    clear HI2 HKB2
    clear q0 q1 q2 q3 q4 r0 r1 r2 r3 r4 r5 r6 qd qs ql qf qg
    obtain ⟨q0, q1, q2, q3, q4, r0, r1, r2, r3, r4, r5, r6, qd, qs, ql, qf, qg⟩ := HI.out.gm.gc)
  go_upto_region 3 with (
    go_at_call 49
    (with_reducible refine (network_any HI.out (Nat.le_trans hw HKB.out.size) (by omega) hc3 hc4 hu).mono ?_)
    rintro e u3 ⟨rfl, ⟨A1, cp1, la1, hI9⟩, hk9⟩
    have HI2 : Hid (GI B u3 g r c m (r2M c m (r1M c m x)) A1 cp1 la1) := hid hI9
    have HKB2 := hid (HKB.out.trans hk9 (fun _ _ e => e))
    clear hI9 hk9 HI HKB
    have HI := HI2
    have HKB := HKB2
    clear HI2 HKB2
    clear q0 q1 q2 q3 q4 r0 r1 r2 r3 r4 r5 r6 qd qs ql qf qg
    obtain ⟨q0, q1, q2, q3, q4, r0, r1, r2, r3, r4, r5, r6, qd, qs, ql, qf, qg⟩ := HI.out.gm.gc)
  go_upto_region 4 with (
    go_at_call 50
    (with_reducible refine (failures_any HI.out (Nat.le_trans hw HKB.out.size) (by omega) hc3 hc4 HNE.out).mono ?_)
    rintro e u4 ⟨rfl, ⟨A2, cp2, la2, hI9⟩, hk9⟩
    have HI2 : Hid (GI B u4 g r c m (r3M c m (r2M c m (r1M c m x))) A2 cp2 la2) := hid hI9
    have HKB2 := hid (HKB.out.trans hk9 (fun _ _ e => e))
    clear hI9 hk9 HI HKB
    have HI := HI2
    have HKB := HKB2
    clear HI2 HKB2
    clear q0 q1 q2 q3 q4 r0 r1 r2 r3 r4 r5 r6 qd qs ql qf qg
    obtain ⟨q0, q1, q2, q3, q4, r0, r1, r2, r3, r4, r5, r6, qd, qs, ql, qf, qg⟩ := HI.out.gm.gc)
  go_wp2_with (
    go_at_call 51
    (with_reducible refine (crews_any HI.out (Nat.le_trans hw HKB.out.size) (by omega) hc3 hc4 hu).mono ?_)
    rintro e u5 ⟨rfl, ⟨A3, cp3, la3, hI9⟩, hk9⟩
    have HI2 : Hid (GI B u5 g r c m (roundM c m x) A3 cp3 la3) := hid hI9
    have HKB2 := hid (HKB.out.trans hk9 (fun _ _ e => e))
    clear hI9 hk9 HI HKB
    have HI := HI2
    have HKB := HKB2
    clear HI2 HKB2)
  go_end0
  exact ⟨rfl, ⟨_, _, _, HI.out⟩, HKB.out⟩
end
end Go.Proofs.Ytnejacmmbfeneaa

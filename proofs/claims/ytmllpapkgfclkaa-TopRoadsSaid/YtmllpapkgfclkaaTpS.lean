import Derived.Test.YtmllpapkgfclkaaTpB
import Derived.Test.YtmllpapkgfclkaaTpP
import Derived.Deep.RegionHeld3
import Derived.Deep.CutRange
import Derived.RegionTactic
import Derived.IntWalk
namespace Go.Proofs.Ytmllpapkgfclkaa
open Go.RowKit

/-! ## The queue in memory -/
theorem EQ : Elem Try.prog 74 2 1 8 (.int .i64 0) := ⟨Try.underlying74, by kernel_rfl, rfl, by decide⟩
structure QM (w : World) (B base : Nat) (A : Option Addr) (c : Nat) (l : List Int) : Prop where
  blk : Blk w B 74 #[.slice A l.length c]
  own : Own w base 2 1 (.slice A l.length c) l.length (icellsC l)
  bb : B < base
  top : base ≤ w.heap.size
/-- what push and pop may turn -/
def QK (B : Nat) (A : Option Addr) (i : Nat) : Prop := i = B ∨ A.map (·.block) = some i
theorem swap_perm {l : List Int} {i j : Nat} {a b : Int} (hi : l[i]? = some a) (hj : l[j]? = some b) (hij : i ≠ j) : ((l.set i b).set j a).Perm l := by
  induction l generalizing i j with
  | nil => cases hi
  | cons x l ih =>
    cases i with
    | zero =>
      cases j with
      | zero => exact absurd rfl hij
      | succ j =>
        simp only [List.getElem?_cons_zero, Option.some.injEq] at hi
        subst hi
        simp only [List.getElem?_cons_succ] at hj
        simp only [List.set_cons_zero, List.set_cons_succ]
        have : ∀ (l : List Int) (j : Nat), l[j]? = some b → (b :: l.set j x).Perm (x :: l) := by
          intro l
          induction l with
          | nil => intro j h; cases h
          | cons y l ih2 =>
            intro j h
            cases j with
            | zero =>
              simp only [List.getElem?_cons_zero, Option.some.injEq] at h
              subst h
              exact List.Perm.swap ..
            | succ j =>
              simp only [List.getElem?_cons_succ] at h
              simp only [List.set_cons_succ]
              exact ((List.Perm.swap ..).trans ((ih2 j h).cons y)).trans (List.Perm.swap ..)
        exact this l j hj
    | succ i =>
      cases j with
      | zero =>
        simp only [List.getElem?_cons_zero, Option.some.injEq] at hj
        subst hj
        simp only [List.getElem?_cons_succ] at hi
        simp only [List.set_cons_zero, List.set_cons_succ]
        have : ∀ (l : List Int) (j : Nat), l[j]? = some a → (a :: l.set j x).Perm (x :: l) := by
          intro l
          induction l with
          | nil => intro j h; cases h
          | cons y l ih2 =>
            intro j h
            cases j with
            | zero =>
              simp only [List.getElem?_cons_zero, Option.some.injEq] at h
              subst h
              exact List.Perm.swap ..
            | succ j =>
              simp only [List.getElem?_cons_succ] at h
              simp only [List.set_cons_succ]
              exact ((List.Perm.swap ..).trans ((ih2 j h).cons y)).trans (List.Perm.swap ..)
        exact this l i hi
      | succ j =>
        simp only [List.getElem?_cons_succ] at hi hj
        simp only [List.set_cons_succ]
        exact (ih hi hj (by omega)).cons x
theorem icC_set (l : List Int) (i : Nat) (a : Int) : icellsC (l.set i a) = (icellsC l).set i (.int .i64 a) := by simp [icellsC, List.map_set]
theorem icC_at {l : List Int} {i : Nat} {a : Int} (h : l[i]? = some a) : (icellsC l)[i]? = some (.int .i64 a) := by simp [icellsC, h]
theorem icC_appQ (l m : List Int) : icellsC (l ++ m) = icellsC l ++ icellsC m := by simp [icellsC]
theorem one_restS {F G : World → Prop} {goal : Prop} (main : (∀ W, F W → G W) → goal) (rest : ∀ W, F W → G W) : goal := main rest
def AB (w : World) (A A' : Option Addr) : Prop := ∀ i, A'.map (·.block) = some i → A.map (·.block) = some i ∨ w.heap.size ≤ i
def PushPost (w : World) (B base : Nat) (A : Option Addr) (l : List Int) (e0 : Int) (e : Ending) (w' : World) : Prop :=
  ∃ A' c' l', e = .returned (.tuple #[]) ∧ l'.Perm (e0 :: l) ∧ QM w' B base A' c' l' ∧ Keep (QK B A) w w' ∧ AB w A A'
theorem Own.put2 {w : World} {base t : Nat} {g n c : Nat} {l : List Int} (h : Own w base t 1 (.slice (some ⟨g, 0, none⟩) n c) n (icellsC l)) (hn : 0 < n) (i j : Nat) (a b : Int) :
    Own ((w.setCell ⟨g, i, none⟩ (.int .i64 a)).setCell ⟨g, j, none⟩ (.int .i64 b)) base t 1 (.slice (some ⟨g, 0, none⟩) n c) n (icellsC ((l.set i a).set j b)) := by
  rw [icC_set, icC_set]
  exact (h.put hn i _).put hn j _
theorem half_facts (k : Nat) (h : k ≤ 8796093022208) : IntKind.i64.wrap (((k + 1 : Nat) : Int) - 1) = (k : Int) ∧ IntKind.i64.wrap ((k : Int).tdiv 2) = ((k / 2 : Nat) : Int) ∧ (k : Int).tdiv 2 = ((k / 2 : Nat) : Int) := by
  have h2 : (k : Int).tdiv 2 = ((k / 2 : Nat) : Int) := by rw [Int.tdiv_eq_ediv_of_nonneg (by omega)]; omega
  refine ⟨?_, ?_, h2⟩
  · rw [IntKind.wrap_i64]; omega
  · rw [h2, IntKind.wrap_i64]; omega
set_option maxRecDepth 100000 in
set_option maxHeartbeats 4000000 in
theorem push_any (w : World) (B base : Nat) (A : Option Addr) (c : Nat) (l : List Int) (x : Int) (u : Nat) (hQ : QM w B base A c l) (hx0 : 0 ≤ x) (hx1 : x ≤ 1125899906842624) (hu : u < 4096) (hl : l.length ≤ 8796093022208) :
    Calls Try.prog 31 #[.pointer (some ⟨B, 0, none⟩), .int .i64 x, .int .i64 u] w (PushPost w B base A l (code x u)) := by
  have HQ := hid hQ
  have c0 : w.cell? ⟨B, 0, none⟩ = some (.slice A l.length c) := hQ.blk.at_ 0
  have HKA := hid ((Keep.refl (fun _ => False) w).alloc (.cells #[.int .i64 (x * 4096 + (u : Int))] 2))
  have HOA := hid (hQ.own.keepB HKA.out (fun _ _ f => f))
  have HSA := hid (src_new (w := w) (cs := #[.int .i64 (x * 4096 + (u : Int))]) (t := 2) (news := icellsC [x * 4096 + (u : Int)]) rfl)
  have hu0 : (0 : Int) ≤ (u : Int) := Int.natCast_nonneg _
  have hu1 : (u : Int) < 4096 := by omega
  clear hQ
  go_enter Try.func31, Try.ntmps31
  go_upto_region 1 with (refine EQ.law2 (.tmp 10) (.tmp 15) (.slice A l.length c) (some ⟨w.heap.size, 0, none⟩) 1 1 rfl rfl rfl rfl base l.length (icellsC l) (icellsC [x * 4096 + (u : Int)]) (l.length + 1) (icellsC (l ++ [x * 4096 + (u : Int)])) rfl (icC_appQ _ _).symm HOA.out rfl (fun _ => ⟨_, rfl, HSA.out⟩) (by intro z hz; simp [icellsC] at hz; subst hz; rfl) (by omega) (by unfold maxLen; omega) (Nat.le_trans HQ.out.top HKA.out.size) ?_; intro A7 c7 w7 ho7 hg7 hw7; have HO7 := hid ho7; have HG7 := hid hg7; clear ho7 hg7)
  have hb7 := (HQ.out.blk.keep HKA.out (fun f => f)).keep ((Keep.refl (fun i => base ≤ i) _).grown HG7.out (fun i e _ => HQ.out.own.block i e)) (by have := HQ.out.bb; omega)
  have HB7 := hid hb7
  have HK7 := hid (show Keep (QK B A) w w7 from (HKA.out.wide (T := QK B A) (fun _ _ f => f.elim)).trans ((Keep.refl (fun i => (Value.slice A l.length c).ownBlock = some i) _).grown HG7.out (fun i e _ => e)) (fun i _ e => Or.inr (by rw [← e]; cases A <;> rfl)))
  have hab7 : AB w A A7 := by
    intro i hi
    rcases hw7 with e | e
    · refine Or.inl ?_
      rw [← hi, e]; cases A <;> rfl
    · refine Or.inr ?_
      rw [e] at hi
      injection hi with hi
      have := HKA.out.size
      rw [← hi]; exact this
  clear hw7
  obtain ⟨ga, cur, rfl, hga, _⟩ := HO7.out.open_ (by omega)
  clear hb7 c0
  have HAB := hid hab7
  clear hab7
  have HOx := hid (show ∃ l', l'.Perm (code x u :: l) ∧ l'.length = l.length + 1 ∧ Own w7 base 2 1 (.slice (some ⟨ga, 0, none⟩) (l.length + 1) c7) (l.length + 1) (icellsC l') from ⟨l ++ [code x u], List.perm_append_singleton _ _, by simp, HO7.out⟩)
  have HTOP := hid (show base ≤ w7.heap.size from Nat.le_trans (Nat.le_trans HQ.out.top HKA.out.size) HG7.out.size)
  clear HKA HOA HSA HO7 HG7 hu0 hu1
  obtain ⟨n, hn⟩ : ∃ n, n = l.length + 1 := ⟨_, rfl⟩
  rw [← hn] at HOx ⊢
  have HN := hid hn
  have hn1 : n ≤ 8796093022209 := by omega
  have hn0 : 0 < n := by omega
  clear hn hl
  go_wp2_with fail
  have HSW := hid (fun (L : List Int) (i j : Nat) (a b : Int) (hi : L[i]? = some a) (hj : L[j]? = some b) (hij : i ≠ j) => swap_perm hi hj hij)
  go_loopw [7] (fun i wr => ∃ (k : Nat) (l' : List Int), k < n ∧ i = .int .i64 k ∧ Hid (l'.Perm (code x u :: l) ∧ l'.length = n ∧ Own wr base 2 1 (.slice (some ⟨ga, 0, none⟩) n c7) n (icellsC l') ∧ Keep (· = ga) w7 wr)) (fun i _ => (RowKit.intOf i).toNat)
  case atStart =>
    obtain ⟨l', h1, h2, h3⟩ := HOx.out
    refine ⟨l.length, l', by have := HN.out; omega, ?_, hid ⟨h1, h2, h3, Keep.refl _ _⟩⟩
    have := HN.out
    congr 1
    omega
  case round =>
    obtain ⟨k, l', hk, rfl, HJ⟩ := hrel
    rcases Nat.eq_zero_or_pos k with hz | hz
    · subst hz
      go_upto_region 2 with fail
      go_quiet (fail)
      have HK9 := hid (HK7.out.trans HJ.out.2.2.2 (fun i hi e => (HAB.out i (by rw [e]; rfl)).elim (fun h => Or.inr h) (fun h => absurd hi (by omega))))
      have c0 : wr.cell? ⟨B, 0, none⟩ = some (.slice A l.length c) := (HB7.out.keep HJ.out.2.2.2 (fun e => absurd HQ.out.bb (by have : B = ga := e; omega))).at_ 0
      have f0 : wr.frozen? ⟨B, 0, none⟩ = false := (HB7.out.keep HJ.out.2.2.2 (fun e => absurd HQ.out.bb (by have : B = ga := e; omega))).free 0
      go_wp2_with fail
      go_end0
      refine ⟨some ⟨ga, 0, none⟩, c7, l', rfl, HJ.out.1, ⟨?_, ?_, HQ.out.bb, ?_⟩, ?_, HAB.out⟩
      · have := (((fun (h : Blk wr _ _ _) => Blk.drewN h nq) (HB7.out.keep HJ.out.2.2.2 (fun e => absurd HQ.out.bb (by have : B = ga := e; omega)))).put 0 (.slice (some ⟨ga, 0, none⟩) n c7))
        rw [HJ.out.2.1]
        exact this
      · rw [HJ.out.2.1]
        exact HJ.out.2.2.1.keep (((Keep.refl (· = B) wr).drewN _).put 0 _) (fun i hi _ e => by have := HQ.out.bb; have : i = B := e; omega)
      · exact Nat.le_trans HTOP.out (Nat.le_trans HJ.out.2.2.2.size (((Keep.refl (· = B) wr).drewN _).put 0 _).size)
      · exact HK9.out.trans (((Keep.refl (· = B) wr).drewN _).put 0 _) (fun i _ e => Or.inl e)
    · obtain ⟨k1, rfl⟩ : ∃ k1, k = k1 + 1 := ⟨k - 1, by omega⟩
      obtain ⟨f1, f2, f3⟩ := half_facts k1 (by omega)
      obtain ⟨p, hp⟩ : ∃ p, p = k1 / 2 := ⟨_, rfl⟩
      rw [← hp] at f2 f3
      have hp1 : p ≤ k1 := by omega
      have HP := hid hp
      clear hp
      obtain ⟨K, hK⟩ : ∃ K, K = k1 + 1 := ⟨_, rfl⟩
      rw [← hK] at f1 hk hz ⊢
      obtain ⟨a, ha⟩ := get_some (l := l') (k := K) (by have := HJ.out.2.1; omega)
      obtain ⟨b, hb⟩ := get_some (l := l') (k := p) (by have := HJ.out.2.1; omega)
      have HA := hid ha
      have HBB := hid hb
      have a1 : wr.cell? ⟨ga, K, none⟩ = some (.int .i64 a) := HJ.out.2.2.1.cell (icC_at ha)
      have a2 : wr.cell? ⟨ga, p, none⟩ = some (.int .i64 b) := HJ.out.2.2.1.cell (icC_at hb)
      clear ha hb
      have HKK := hid hK
      clear hK
      have hp0 : (0 : Int) ≤ (p : Int) := Int.natCast_nonneg _
      have hpn : (p : Int) < (n : Int) := by have := HKK.out; omega
      have hz1 : (0 : Int) < (K : Int) := by omega
      have hkn : (K : Int) < (n : Int) := by omega
      by_cases hab : a < b
      · go_upto_region 2 with fail
        go_quiet (fail)
        have hne : ¬ K = p := by have := HKK.out; omega
        have hne2 : ¬ p = K := by have := HKK.out; omega
        have f1 : wr.frozen? ⟨ga, K, none⟩ = false := HJ.out.2.2.1.free hn0 K
        have f2 : wr.frozen? ⟨ga, p, none⟩ = false := HJ.out.2.2.1.free hn0 p
        have HJ2 := hid (HSW.out l' K p a b HA.out HBB.out (by have := HKK.out; omega))
        have HJ3 := hid (HJ.out.2.2.1.put2 hn0 K p b a)
        have HJ4 := hid (((HJ.out.2.2.2.put K (.int .i64 b)).put p (.int .i64 a)))
        go_upto_region 3 with fail
        go_region
        all_goals
          go_wp2_with fail
          go_round
          case rel =>
            refine ⟨p, (l'.set K b).set p a, by have := HKK.out; omega, by go_num, hid ⟨HJ2.out.trans HJ.out.1, by simp [HJ.out.2.1], ?_, ?_⟩⟩
            · exact (HJ.out.2.2.1.keep ((Keep.refl (fun _ => False) wr).drewN _) (fun _ _ _ f => f)).put2 hn0 K p b a
            · exact ((HJ.out.2.2.2.drewN _).put K _).put p _
          case measure => have := HKK.out; simp [RowKit.intOf]; omega
      · go_upto_region 2 with fail
        go_quiet (fail)
        have HK9 := hid (HK7.out.trans HJ.out.2.2.2 (fun i hi e => (HAB.out i (by rw [e]; rfl)).elim (fun h => Or.inr h) (fun h => absurd hi (by omega))))
        have c0 : wr.cell? ⟨B, 0, none⟩ = some (.slice A l.length c) := (HB7.out.keep HJ.out.2.2.2 (fun e => absurd HQ.out.bb (by have : B = ga := e; omega))).at_ 0
        have f0 : wr.frozen? ⟨B, 0, none⟩ = false := (HB7.out.keep HJ.out.2.2.2 (fun e => absurd HQ.out.bb (by have : B = ga := e; omega))).free 0
        go_wp2_with fail
        go_end0
        refine ⟨some ⟨ga, 0, none⟩, c7, l', rfl, HJ.out.1, ⟨?_, ?_, HQ.out.bb, ?_⟩, ?_, HAB.out⟩
        · have := (((fun (h : Blk wr _ _ _) => Blk.drewN h nq) (HB7.out.keep HJ.out.2.2.2 (fun e => absurd HQ.out.bb (by have : B = ga := e; omega)))).put 0 (.slice (some ⟨ga, 0, none⟩) n c7))
          rw [HJ.out.2.1]
          exact this
        · rw [HJ.out.2.1]
          exact HJ.out.2.2.1.keep (((Keep.refl (· = B) wr).drewN _).put 0 _) (fun i hi _ e => by have := HQ.out.bb; have : i = B := e; omega)
        · exact Nat.le_trans HTOP.out (Nat.le_trans HJ.out.2.2.2.size (((Keep.refl (· = B) wr).drewN _).put 0 _).size)
        · exact HK9.out.trans (((Keep.refl (· = B) wr).drewN _).put 0 _) (fun i _ e => Or.inl e)
/-- what pop leaves of the list before it sifts -/
theorem pop_perm (e0 z : Int) (t : List Int) (hz : (e0 :: t)[t.length]? = some z) : (e0 :: t).Perm (e0 :: (((e0 :: t).set 0 z).take t.length)) := by
  refine List.Perm.cons _ ?_
  rcases List.eq_nil_or_concat t with rfl | ⟨m, y, rfl⟩
  · simp
  · rw [List.concat_eq_append] at hz ⊢
    have hy : y = z := by
      have h1 : (e0 :: (m ++ [y]))[(m ++ [y]).length]? = some y := by
        rw [show (m ++ [y]).length = (e0 :: m).length from by simp]
        rw [show e0 :: (m ++ [y]) = (e0 :: m) ++ [y] from rfl, List.getElem?_append_right (Nat.le_refl _)]
        simp
      rw [h1] at hz
      injection hz
    subst hy
    have : ((e0 :: (m ++ [y])).set 0 y).take (m ++ [y]).length = y :: m := by
      simp
    rw [this]
    exact List.perm_append_singleton _ _
theorem icC_take (l : List Int) (n : Nat) : (icellsC l).take n = icellsC (l.take n) := by simp [icellsC, List.map_take]
def PopPost (w : World) (B base : Nat) (A : Option Addr) (l : List Int) (e : Ending) (w' : World) : Prop :=
  ∃ c' l' d u, e = .returned (.tuple #[.int .i64 d, .int .i64 (u : Nat)]) ∧ u < 4096 ∧ 0 ≤ d ∧ l.Perm (code d u :: l') ∧ QM w' B base A c' l' ∧ Keep (QK B A) w w'
theorem code_facts (d : Int) (u : Nat) (h0 : 0 ≤ d) (h1 : d ≤ 1125899906842624) (hu : u < 4096) : (code d u).tdiv 4096 = d ∧ (code d u).tmod 4096 = (u : Int) ∧ code d u / 4096 = d ∧ code d u % 4096 = (u : Int) ∧ 0 ≤ code d u ∧ code d u ≤ 4611686018427392000 ∧ IntKind.i64.wrap d = d := by
  unfold code
  refine ⟨?_, ?_, by omega, by omega, by omega, by omega, by rw [IntKind.wrap_i64]; omega⟩
  · rw [Int.tdiv_eq_ediv_of_nonneg (by omega)]; omega
  · rw [Int.tmod_eq_emod_of_nonneg (by omega)]; omega
set_option maxRecDepth 100000 in
set_option maxHeartbeats 4000000 in
theorem pop_any (w : World) (B base : Nat) (A : Option Addr) (c : Nat) (l : List Int) (hQ : QM w B base A c l) (h0 : l ≠ []) (hx : ∀ z ∈ l, ∃ d u, z = code d u ∧ 0 ≤ d ∧ d ≤ 1125899906842624 ∧ u < 4096) (hl : l.length ≤ 8796093022208) :
    Calls Try.prog 33 #[.pointer (some ⟨B, 0, none⟩)] w (PopPost w B base A l) := by
  have c0 : w.cell? ⟨B, 0, none⟩ = some (.slice A l.length c) := hQ.blk.at_ 0
  have HQ := hid hQ
  obtain ⟨e0, t, rfl⟩ := List.exists_cons_of_ne_nil h0
  obtain ⟨d, u, he0, hd0, hd1, hu⟩ := hx e0 (by simp)
  obtain ⟨ga, cur, rfl, hga, _, hcap, _⟩ := hQ.own.open_ (by simp)
  obtain ⟨n, hn⟩ : ∃ n, n = t.length := ⟨_, rfl⟩
  have hlen : (e0 :: t).length = n + 1 := by simp [hn]
  obtain ⟨z, hz⟩ := get_some (l := e0 :: t) (k := t.length) (by simp)
  have hO := hQ.own
  rw [hlen] at c0 hl hO hcap
  have hcz : (n : Int) ≤ (c : Int) := by omega
  have HPP := hid (pop_perm e0 z t hz)
  rw [← hn] at HPP hz
  have c1 : w.cell? ⟨ga, 0, none⟩ = some (.int .i64 e0) := hO.cell (icC_at (l := e0 :: t) (by simp))
  have c2 : w.cell? ⟨ga, n, none⟩ = some (.int .i64 z) := hO.cell (icC_at hz)
  have f0 : w.frozen? ⟨ga, 0, none⟩ = false := hO.free (by omega) 0
  obtain ⟨f1, f2, f3, f4, f5, f6, f7⟩ := code_facts d u hd0 hd1 hu
  rw [← he0] at f1 f2 f3 f4 f5 f6
  obtain ⟨M, hM⟩ : ∃ M, M = (e0 :: t).set 0 z := ⟨_, rfl⟩
  have HOM := hid (show Own (w.setCell ⟨ga, 0, none⟩ (.int .i64 z)) base 2 1 (.slice (some ⟨ga, 0, none⟩) n c) n (icellsC (M.take n)) from by
    have := (hO.put (by omega) 0 (.int .i64 z))
    rw [← icC_set, ← hM] at this
    have h2 := this.take n (by omega)
    rw [Nat.mul_one, icC_take] at h2
    exact h2)
  have HM := hid (show (e0 :: t).Perm (code d u :: M.take n) ∧ (M.take n).length = n from by
    rw [hM, ← he0]
    exact ⟨HPP.out, by simp [hn]⟩)
  have HE := hid he0
  clear hQ hO hx hz hn hlen he0 HPP hM
  go_enter Try.func33, Try.ntmps33
  go_upto_region 5 with fail
  have HB0 := hid (HQ.out.blk.keep ((Keep.refl (· = ga) w).put 0 (.int .i64 z)) (fun e => absurd HQ.out.bb (by have : B = ga := e; omega)))
  have HK0 := hid ((Keep.refl (· = ga) w).put 0 (.int .i64 z))
  have HSW := hid (fun (L : List Int) (i j : Nat) (a b : Int) (hi : L[i]? = some a) (hj : L[j]? = some b) (hij : i ≠ j) => swap_perm hi hj hij)
  generalize w.setCell ⟨ga, 0, none⟩ (.int .i64 z) = w1 at *
  have HQ1 := hid HQ.out.bb
  have HTOP := hid (Nat.le_trans HQ.out.top HK0.out.size)
  clear c0 c1 c2 f0 HQ
  go_wp2_with fail
  go_loopw [7] (fun i wr => ∃ (k : Nat) (l' : List Int), k ≤ n ∧ i = .int .i64 k ∧ Hid ((e0 :: t).Perm (code d u :: l') ∧ l'.length = n ∧ Own wr base 2 1 (.slice (some ⟨ga, 0, none⟩) n c) n (icellsC l') ∧ Keep (· = ga) w1 wr)) (fun i _ => n - (RowKit.intOf i).toNat)
  case atStart => exact ⟨0, M.take n, Nat.zero_le _, by go_num, hid ⟨HM.out.1, HM.out.2, HOM.out, Keep.refl _ _⟩⟩
  case round =>
    obtain ⟨k, l', hk, rfl, HJ⟩ := hrel
    clear HOM HM
    obtain ⟨c1, hc1⟩ : ∃ c1, c1 = 2 * k + 1 := ⟨_, rfl⟩
    have HC1 := hid hc1
    have hcz1 : 2 * (k : Int) + 1 = (c1 : Int) := by omega
    clear hc1
    by_cases hcn : (c1 : Int) < (n : Int)
    · have hnn : 0 < n := by omega
      go_upto_region 7 with fail
      clear hcz1
      go_upto_region 8 with fail
      obtain ⟨c2, hc2⟩ : ∃ c2, c2 = c1 + 1 := ⟨_, rfl⟩
      have HC2 := hid hc2
      have hw2 : IntKind.i64.wrap ((c1 : Int) + 1) = (c2 : Int) := by rw [IntKind.wrap_i64]; omega
      have hw3 : (c1 : Int) + 1 = (c2 : Int) := by omega
      have hb1 : (0 : Int) ≤ (c1 : Int) := by omega
      clear hc2
      obtain ⟨x, hx⟩ := get_some (l := l') (k := c1) (by have := HJ.out.2.1; omega)
      have a1 : wr.cell? ⟨ga, c1, none⟩ = some (.int .i64 x) := HJ.out.2.2.1.cell (icC_at hx)
      clear hx
      go_cut [50] from 33 to 50 (fun v w' => ∃ g : Bool, v = .bool g ∧ (g = true → c2 < n) ∧ Hid (Same wr w'))
      case first =>
        by_cases hc2n : (c2 : Int) < (n : Int)
        · obtain ⟨y, hy⟩ := get_some (l := l') (k := c2) (by have := HJ.out.2.1; omega)
          have a2 : wr.cell? ⟨ga, c2, none⟩ = some (.int .i64 y) := HJ.out.2.2.1.cell (icC_at hy)
          clear hy hw3
          have hb2 : (0 : Int) ≤ (c2 : Int) := by omega
          go_quiet (fail)
          go_wp2_with fail
          go_meet
          exact ⟨_, rfl, fun _ => by omega, hid ((Keep.refl _ _).drewN _)⟩
        · clear hw3
          go_quiet (fail)
          go_wp2_with fail
          go_meet
          exact ⟨false, by go_num, (fun e => by cases e), hid ((Keep.refl _ _).drewN _)⟩
      case rest =>
        obtain ⟨g, rfl, hg, HS0⟩ := hcut
        clear a1 hw2
        go_upto_if 50 with fail
        go_cut [8] from 51 to 52 (fun v w' => ∃ cc : Nat, v = .int .i64 cc ∧ k < cc ∧ cc < n ∧ Hid (Same wr w'))
        case first =>
          cases g
          · go_wp2_with fail
            go_meet
            exact ⟨c1, by go_num, by have := HC1.out; omega, by omega, HS0⟩
          · have h2n := hg rfl
            go_wp2_with fail
            go_meet
            exact ⟨c2, by go_num, by have := HC1.out; have := HC2.out; omega, h2n, HS0⟩
        case rest =>
          obtain ⟨cc, rfl, hkc, hcc, HS⟩ := hcut
          clear hw3
          obtain ⟨a, ha⟩ := get_some (l := l') (k := k) (by have := HJ.out.2.1; omega)
          obtain ⟨b, hb⟩ := get_some (l := l') (k := cc) (by have := HJ.out.2.1; omega)
          have a1 : wc.cell? ⟨ga, k, none⟩ = some (.int .i64 a) := ((HS.out.cell (p := ⟨ga, k, none⟩) (by obtain ⟨g', _, hA, _, hB, _⟩ := HJ.out.2.2.1.open_ hnn; injection hA with hA; injection hA with hA; rw [hA]; exact hB.lt) (fun f => f))).trans (HJ.out.2.2.1.cell (icC_at ha))
          have HO2 := hid (HJ.out.2.2.1.keep HS.out (fun _ _ _ f => f))
          have a2 : wc.cell? ⟨ga, cc, none⟩ = some (.int .i64 b) := HO2.out.cell (icC_at hb)
          have HJ2 := hid (HSW.out l' k cc a b ha hb (by omega))
          have HKW := hid (HJ.out.2.2.2.then HS.out)
          have f8 : wc.frozen? ⟨ga, k, none⟩ = false := HO2.out.free hnn k
          have f9 : wc.frozen? ⟨ga, cc, none⟩ = false := HO2.out.free hnn cc
          have hne : ¬ k = cc := by omega
          have hne2 : ¬ cc = k := by omega
          have hkz : (k : Int) < (n : Int) := by omega
          have hccz : (cc : Int) < (n : Int) := by omega
          clear ha hb
          by_cases hab : a ≤ b
          · go_upto_region 10 with fail
            go_quiet (fail)
            have HK9 := hid (HK0.out.trans HKW.out (fun _ _ e => e))
            have hnb : B ≠ ga := by have := HQ1.out; omega
            have c0 : wc.cell? ⟨B, 0, none⟩ = some (.slice (some ⟨ga, 0, none⟩) (e0 :: t).length c) := (HB0.out.keep HKW.out (fun e => hnb e)).at_ 0
            have f0 : wc.frozen? ⟨B, 0, none⟩ = false := (HB0.out.keep HKW.out (fun e => hnb e)).free 0
            go_wp2_with fail
            go_ret2
            refine ⟨c, l', d, u, ?_, hu, hd0, HJ.out.1, ⟨?_, ?_, HQ1.out, ?_⟩, ?_⟩
            · go_num
            · have := (((fun (h : Blk wc _ _ _) => Blk.drewN h nq) (HB0.out.keep HKW.out (fun e => hnb e))).put 0 (.slice (some ⟨ga, 0, none⟩) n c))
              rw [HJ.out.2.1]
              exact this
            · rw [HJ.out.2.1]
              exact HO2.out.keep (((Keep.refl (· = B) wc).drewN _).put 0 _) (fun i hi _ e => by have := HQ1.out; have : i = B := e; omega)
            · exact Nat.le_trans HTOP.out (Nat.le_trans HKW.out.size (((Keep.refl (· = B) wc).drewN _).put 0 _).size)
            · exact (HK9.out.wide (T := QK B (some ⟨ga, 0, none⟩)) (fun i _ e => Or.inr (by rw [e]; rfl))).trans (((Keep.refl (· = B) wc).drewN _).put 0 _) (fun i _ e => Or.inl e)
          · go_upto_region 10 with fail
            go_quiet (fail)
            go_upto_region 11 with fail
            go_region
            all_goals
              go_wp2_with fail
              go_round
              case rel =>
                refine ⟨cc, (l'.set k b).set cc a, by omega, by go_num, hid ⟨HJ.out.1.trans (HJ2.out.symm.cons _), by simp [HJ.out.2.1], ?_, ?_⟩⟩
                · exact (HO2.out.keep ((Keep.refl (fun _ => False) wc).drewN _) (fun _ _ _ f => f)).put2 hnn k cc b a
                · exact ((HKW.out.drewN _).put k _).put cc _
              case measure => simp [RowKit.intOf]; omega
    · go_upto_region 7 with fail
      clear hcz1
      have HK9 := hid (HK0.out.trans HJ.out.2.2.2 (fun _ _ e => e))
      have hnb : B ≠ ga := by have := HQ1.out; omega
      have c0 : wr.cell? ⟨B, 0, none⟩ = some (.slice (some ⟨ga, 0, none⟩) (e0 :: t).length c) := (HB0.out.keep HJ.out.2.2.2 (fun e => hnb e)).at_ 0
      have f0 : wr.frozen? ⟨B, 0, none⟩ = false := (HB0.out.keep HJ.out.2.2.2 (fun e => hnb e)).free 0
      go_wp2_with fail
      go_ret2
      refine ⟨c, l', d, u, ?_, hu, hd0, HJ.out.1, ⟨?_, ?_, HQ1.out, ?_⟩, ?_⟩
      · go_num
      · have := (((HB0.out.keep HJ.out.2.2.2 (fun e => hnb e))).put 0 (.slice (some ⟨ga, 0, none⟩) n c))
        rw [HJ.out.2.1]
        exact this
      · rw [HJ.out.2.1]
        exact HJ.out.2.2.1.keep (((Keep.refl (· = B) wr)).put 0 _) (fun i hi _ e => by have := HQ1.out; have : i = B := e; omega)
      · exact Nat.le_trans HTOP.out (Nat.le_trans HJ.out.2.2.2.size (((Keep.refl (· = B) wr)).put 0 _).size)
      · exact (HK9.out.wide (T := QK B (some ⟨ga, 0, none⟩)) (fun i _ e => Or.inr (by rw [e]; rfl))).trans (((Keep.refl (· = B) wr)).put 0 _) (fun i _ e => Or.inl e)
end Go.Proofs.Ytmllpapkgfclkaa

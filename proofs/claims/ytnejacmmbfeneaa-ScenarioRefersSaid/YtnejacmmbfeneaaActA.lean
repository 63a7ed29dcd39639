import Derived.Test.YtnejacmmbfeneaaConfG
import Derived.Test.YtnejacmmbfeneaaStep
namespace Go.Proofs.Ytnejacmmbfeneaa
open Go.RowKit Go.PlainAid

/-! ## Actions -/
structure SR where
  kind : Int
  A : Option Addr
  c : Nat
  nodes : List Int
def SR.cells (s : SR) : List Value := [.int .i64 s.kind, .slice s.A s.nodes.length s.c]
structure AC where
  kind : Int
  who : Int
  n : Int
  call : Int
  other : Int
  node : Int
  S : Option Addr
  cS : Nat
  src : List SR
  G : Option Addr
  cG : Nat
  grp : List Int
def AC.cells (a : AC) : List Value := [.int .i64 a.kind, .int .i64 a.who, .int .i64 a.n, .int .i64 a.call, .int .i64 a.other, .int .i64 a.node, .slice a.S a.src.length a.cS, .slice a.G a.grp.length a.cG]
def accells (l : List AC) : List Value := l.flatMap AC.cells
def srcells (l : List SR) : List Value := l.flatMap SR.cells
def SR.val (s : SR) : Int × List Int := (s.kind, s.nodes)
structure AV where
  kind : Int
  who : Int
  n : Int
  call : Int
  other : Int
  node : Int
  src : List (Int × List Int)
  grp : List Int
deriving DecidableEq
def AC.val (a : AC) : AV := ⟨a.kind, a.who, a.n, a.call, a.other, a.node, a.src.map SR.val, a.grp⟩
structure AcOk (w : World) (a : AC) : Prop where
  src : Sl w (fun _ => False) 2 a.S a.src.length (srcells a.src)
  nodes : ∀ s ∈ a.src, Sl w (fun _ => False) 1 s.A s.nodes.length (icellsC s.nodes) ∧ s.nodes.length ≤ 100000
  grp : Sl w (fun _ => False) 1 a.G a.grp.length (icellsC a.grp)
  ls : a.src.length ≤ 100000
  lg : a.grp.length ≤ 100000
theorem AcOk.same {w w' : World} {a : AC} (h : AcOk w a) (hk : Same w w') : AcOk w' a := ⟨h.src.same hk, fun s hs => ⟨(h.nodes s hs).1.same hk, (h.nodes s hs).2⟩, h.grp.same hk, h.ls, h.lg⟩
structure ActM (w : World) (A : Option Addr) (l : List AC) : Prop where
  sl : Sl w (fun _ => False) 8 A l.length (accells l)
  ok : ∀ a ∈ l, AcOk w a
theorem ActM.same {w w' : World} {A : Option Addr} {l : List AC} (h : ActM w A l) (hk : Same w w') : ActM w' A l := ⟨h.sl.same hk, fun a ha => (h.ok a ha).same hk⟩
def sim (kind who : Int) : AC := ⟨kind, who, 0, 0, 0, 0, none, 0, [], none, 0, []⟩
theorem sim_ok (w : World) (k v : Int) : AcOk w (sim k v) := ⟨Sl.nil _ _ _ _, fun s hs => by simp [sim] at hs, Sl.nil _ _ _ _, by simp [sim], by simp [sim]⟩
theorem EAc : Elem Try.prog 45 59 8 96 (.agg (sim 0 0).cells.toArray) := ⟨Try.underlying45, by kernel_rfl, rfl, by decide⟩
theorem accells_one (l : List AC) : ∀ u ∈ accells l, u.oneCell' = true := by
  intro u hu
  simp only [accells, List.mem_flatMap] at hu
  obtain ⟨a, _, hu⟩ := hu
  simp only [AC.cells, List.mem_cons, List.not_mem_nil, or_false] at hu
  rcases hu with rfl | rfl | rfl | rfl | rfl | rfl | rfl | rfl <;> rfl
theorem accells_snoc (l : List AC) (a : AC) : accells l ++ a.cells = accells (l ++ [a]) := by simp [accells]
def ActsPost (w : World) (l : List AV) (e : Ending) (w' : World) : Prop := ∃ A c la, e = .returned (.slice A la.length c) ∧ la.map AC.val = l ∧ la.length ≤ 100000 ∧ ActM w' A la ∧ Same w w'

theorem Own.made0 (w : World) (e : TypeId) (size n : Nat) (cs : Array Value) (h : cs.size = n * size) (hn : n ≤ maxLen) : Own (w.alloc (.cells cs e)) w.heap.size e size (.slice (some ⟨w.heap.size, 0, none⟩) 0 n) 0 [] :=
  Own.of_blk (Nat.le_refl _) (Blk.made w e cs) (Nat.zero_le _) hn h (by simp)
/-! ## The actions that repair all failures -/
def cA (k : Nat) : List AC := sim 9 0 :: (List.range k).map (fun i : Nat => sim 11 (i : Int))
def cB (cen D i : Nat) : List AC := cA cen ++ (List.range i).flatMap (fun _ => sim 4 0 :: List.replicate D (sim 5 0))
def cC (cen D i j : Nat) : List AC := cB cen D i ++ (sim 4 0 :: List.replicate j (sim 5 0))
theorem cA_len (k : Nat) : (cA k).length = k + 1 := by simp [cA]
theorem flat_const_len {α : Type} (x : List α) : ∀ i : Nat, ((List.range i).flatMap (fun _ => x)).length = i * x.length
  | 0 => by simp
  | i + 1 => by rw [List.range_succ, List.flatMap_append, List.length_append, flat_const_len x i]; simp [Nat.succ_mul]
theorem cB_len (cen D i : Nat) : (cB cen D i).length = cen + 1 + i * (D + 1) := by
  rw [cB, List.length_append, cA_len, flat_const_len]; simp
theorem cC_len (cen D i j : Nat) : (cC cen D i j).length = cen + 1 + i * (D + 1) + (j + 1) := by simp [cC, cB_len]
theorem cA_succ (k : Nat) : cA k ++ [sim 11 (k : Int)] = cA (k + 1) := by simp [cA, List.range_succ]
theorem cB_zero (cen D : Nat) : cB cen D 0 = cA cen := by simp [cB]
theorem cC_zero (cen D i : Nat) : cB cen D i ++ [sim 4 0] = cC cen D i 0 := by simp [cC]
theorem cC_succ (cen D i j : Nat) : cC cen D i j ++ [sim 5 0] = cC cen D i (j + 1) := by simp [cC, List.replicate_succ']
theorem cC_full (cen D i : Nat) : cC cen D i D = cB cen D (i + 1) := by simp [cC, cB, List.range_succ]
theorem cB_sim (cen D i : Nat) : ∀ a ∈ cB cen D i, ∃ k v, a = sim k v := by
  intro a ha
  simp only [cB, cA, List.mem_append, List.mem_cons, List.mem_map, List.mem_flatMap, List.mem_replicate] at ha
  rcases ha with (rfl | ⟨i, _, rfl⟩) | ⟨_, _, rfl | ⟨_, rfl⟩⟩ <;> exact ⟨_, _, rfl⟩
def simPost (w : World) (l : List AC) (e : Ending) (w' : World) : Prop := ∃ A c, e = .returned (.slice A l.length c) ∧ Sl w' (fun _ => False) 8 A l.length (accells l) ∧ Same w w'
theorem vnum_ok {c : CF} (h : vnum c = 0) : VB4 c ∧ (c.uni.length : Int) ≤ 256 := by
  have h4 : VB4 c := by
    by_cases k1 : 1 ≤ c.cen ∧ c.cen ≤ 9
    · by_cases k3 : 1 ≤ (c.dis.length : Int) ∧ (c.dis.length : Int) ≤ 4096
      · exact ⟨k1.1, k1.2, k3.1, k3.2⟩
      · have := vnum2 k1.1 k1.2 (c := c) (by omega); omega
    · have := vnum1 (c := c) (by omega); omega
  refine ⟨h4, ?_⟩
  cases h3 : disB c
  · have := vnum3 h4 h3; omega
  · cases h5 : edgesB c
    · have := vnum4 h4 h3 h5; omega
    · cases h6 : unitsB c
      · have := vnum5 h4 h3 h5 h6; omega
      · simp [unitsB] at h6; omega
def placesN (c : CF) : Int := c.cen + 1 + c.uni.length
section
variable (w : World)
set_option maxRecDepth 100000 in
theorem endpoints_any (c : CF) (h1 : 1 ≤ c.cen) (h2 : c.cen ≤ 9) (hu : (c.uni.length : Int) ≤ 256) : Calls Try.prog 30 #[.agg c.cells.toArray] w fun e w' => e = .returned (.int .i64 (placesN c)) ∧ Same w w' := by
  have HP := hid (show placesN c = c.cen + 1 + c.uni.length from rfl)
  generalize placesN c = pn at *
  simp only [CF.cells]
  go_enter Try.func30, Try.ntmps30
  go_wp2_with fail
  go_ret
  exact ⟨ret_of (int_of HP.out.symm), (Keep.refl _ w).alloc _⟩
set_option maxRecDepth 100000 in
theorem places_any (c : CF) (h1 : 1 ≤ c.cen) (h2 : c.cen ≤ 9) (hu : (c.uni.length : Int) ≤ 256) : Calls Try.prog 32 #[.agg c.cells.toArray] w fun e w' => e = .returned (.int .i64 (placesN c)) ∧ Same w w' := by
  have HP := hid (show placesN c = c.cen + 1 + c.uni.length from rfl)
  generalize placesN c = pn at *
  simp only [CF.cells]
  go_enter Try.func32, Try.ntmps32
  go_wp2_with fail
  go_ret
  exact ⟨ret_of (int_of HP.out.symm), (Keep.refl _ w).alloc _⟩
end
end Go.Proofs.Ytnejacmmbfeneaa

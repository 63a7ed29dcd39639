import Derived.Test.YtnejacmmbfeneaaGenO
namespace Go.Proofs.Ytnejacmmbfeneaa
open Go.RowKit Go.PlainAid

/-! ## The model does not look at the list -/
def AS.pre (L : List AV) (x : AS) : AS := ⟨x.s, x.di, x.sp, x.dn, L ++ x.l⟩
section
variable (L : List AV) (x : AS)
theorem pre_s : (x.pre L).s = x.s := by cases x; rfl
theorem pre_di : (x.pre L).di = x.di := by cases x; rfl
theorem pre_sp : (x.pre L).sp = x.sp := by cases x; rfl
theorem pre_dn : (x.pre L).dn = x.dn := by cases x; rfl
theorem pre_draw (n : Int) : (x.pre L).draw n = (x.draw n).pre L := by cases x; rfl
theorem pre_dial : (x.pre L).dial = x.dial.pre L := by cases x; rfl
theorem pre_flip : (x.pre L).flip = x.flip.pre L := by cases x; rfl
theorem pre_crash (k : Nat) : (x.pre L).crash k = (x.crash k).pre L := by cases x; rfl
theorem pre_add (a : AV) : (x.pre L).add a = (x.add a).pre L := by cases x; simp [AS.add, AS.pre]
theorem pre_ite {p : Prop} [Decidable p] (a b : AS) : (if p then a else b).pre L = if p then a.pre L else b.pre L := by split <;> rfl
theorem srcM_pre (nd n : Int) : srcM nd n (x.pre L) = ((srcM nd n x).1, (srcM nd n x).2.pre L) := by
  by_cases h : chc 1 2 x.s = true
  · simp only [srcM, pre_s, pre_draw, h, ↓reduceIte]
  · simp only [srcM, pre_s, pre_draw, h, ↓reduceIte, Bool.false_eq_true]
theorem dialM_pre (nd : Int) : dialM nd (x.pre L) = (dialM nd x).pre L := by
  rw [dialM_eq, dialM_eq, pre_s, pre_draw, pre_draw, pre_s, srcM_pre]
  generalize roll nd x.s = n
  generalize roll 3 (x.draw nd).s = k
  generalize srcM nd n ((x.draw nd).draw 3) = y
  obtain ⟨a, z⟩ := y
  simp only
  rw [pre_dial, pre_add]
theorem b1M_pre (nd rate : Int) : b1M nd rate (x.pre L) = (b1M nd rate x).pre L := by
  simp only [b1M, pre_s, pre_draw, dialM_pre, pre_ite]
theorem b2M_pre : b2M (x.pre L) = (b2M x).pre L := by
  simp only [b2M, pre_s, pre_di, pre_draw, pre_add, pre_ite]
theorem b3M_pre : b3M (x.pre L) = (b3M x).pre L := by
  simp only [b3M, pre_s, pre_di, pre_draw, pre_add, pre_ite]
theorem delM_pre : delM (x.pre L) = (delM x).pre L := by
  simp only [delM, pre_s, pre_draw, pre_add]
theorem iterM_pre : ∀ k, iterM k (x.pre L) = (iterM k x).pre L
  | 0 => rfl
  | k + 1 => by rw [iterM, iterM_pre k, delM_pre]; rfl
theorem evM_pre (kind rate : Int) : evM kind rate (x.pre L) = (evM kind rate x).pre L := by
  simp only [evM, pre_s, pre_draw, pre_add, pre_ite]
theorem grpM_pre : ∀ k, grpM k (x.pre L) = ((grpM k x).1, (grpM k x).2.pre L)
  | 0 => rfl
  | k + 1 => by rw [grpM, grpM_pre k]; rfl
theorem partM_pre (p : Nat) : partM p (x.pre L) = (partM p x).pre L := by
  simp only [partM, pre_sp, grpM_pre, pre_add, pre_flip, pre_ite]
theorem splitM_pre (p : Nat) (rate : Int) : splitM p rate (x.pre L) = (splitM p rate x).pre L := by
  simp only [splitM_part, pre_s, pre_draw, partM_pre, pre_ite]
theorem crashM_pre (k : Nat) : crashM k (x.pre L) = (crashM k x).pre L := by
  simp only [crashM, pre_dn, pre_s, pre_draw, pre_add, pre_crash, pre_ite]
theorem f1M_pre (cen rate : Int) : f1M cen rate (x.pre L) = (f1M cen rate x).pre L := by
  simp only [f1M, pre_s, pre_draw, crashM_pre, pre_ite]
theorem roadM_pre (i j : Int) : roadM i j (x.pre L) = (roadM i j x).pre L := by
  simp only [roadM, pre_s, pre_draw, pre_add, pre_ite]
theorem f2M_pre (cen ne rate : Int) : f2M cen ne rate (x.pre L) = (f2M cen ne rate x).pre L := by
  simp only [f2M, pre_s, pre_draw, roadM_pre, pre_ite]
theorem c1M_pre (nu : Int) : c1M nu (x.pre L) = (c1M nu x).pre L := by
  simp only [c1M, pre_s, pre_draw, pre_add, pre_ite]
theorem c2M_pre (nu rate : Int) : c2M nu rate (x.pre L) = (c2M nu rate x).pre L := by
  simp only [c2M, pre_s, pre_draw, pre_add, pre_ite]
theorem c3M_pre (cen : Int) : c3M cen (x.pre L) = (c3M cen x).pre L := by
  simp only [c3M, pre_s, pre_draw, pre_add, pre_ite]
theorem roundM_pre (c : CF) (m : RT) : roundM c m (x.pre L) = (roundM c m x).pre L := by
  simp only [roundM, r1M, r2M, r3M, r4M, netM, pre_add, b1M_pre, b2M_pre, b3M_pre, iterM_pre, evM_pre, splitM_pre, f1M_pre, f2M_pre, c1M_pre, c2M_pre, c3M_pre]
theorem noL_pre : x = x.noL.pre x.l := by simp [AS.noL, AS.pre]
theorem roundM_noL (c : CF) (m : RT) : roundM c m x = (roundM c m x.noL).pre x.l := by
  conv => lhs; rw [noL_pre x]
  exact roundM_pre _ _ _ _
end
end Go.Proofs.Ytnejacmmbfeneaa

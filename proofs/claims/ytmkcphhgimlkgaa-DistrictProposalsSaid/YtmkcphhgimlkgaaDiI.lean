import Derived.Test.YtmkcphhgimlkgaaDiH
import Derived.Test.YtmkcphhgimlkgaaLeS
namespace Go.Proofs.Ytmkcphhgimlkgaa
open Go.RowKit

/-! ## Lists of numbers that are picked -/
def pick {α : Type} (p : α → Bool) (l : List α) (k : Nat) : List Int := (List.range k).flatMap (fun (i : Nat) => match l[i]? with
  | some a => if p a = true then [(i : Int)] else []
  | none => [])
section
variable {α : Type} {p : α → Bool} {l : List α}
theorem pick_succ (k : Nat) : pick p l (k + 1) = pick p l k ++ (match l[k]? with | some a => if p a = true then [(k : Int)] else [] | none => []) := by
  rw [pick, pick, List.range_succ]; simp
theorem pick_yes {k : Nat} {a : α} (h : l[k]? = some a) (hp : p a = true) : pick p l (k + 1) = pick p l k ++ [(k : Int)] := by rw [pick_succ, h]; simp [hp]
theorem pick_no {k : Nat} {a : α} (h : l[k]? = some a) (hp : p a = false) : pick p l (k + 1) = pick p l k := by rw [pick_succ, h]; simp [hp]
theorem pick_le (k : Nat) : (pick p l k).length ≤ k := by
  induction k with
  | zero => simp [pick]
  | succ k ih =>
    rw [pick_succ, List.length_append]
    have : (match l[k]? with | some a => if p a = true then [(k : Int)] else [] | none => []).length ≤ 1 := by split; split <;> simp; simp
    omega
end
theorem icells_snoc (l : List Int) (a : Int) : icellsC (l ++ [a]) = icellsC l ++ [.int .i64 a] := by simp [icellsC]
def actB (ce now : Int) (s : St) : Bool := decide (s.h = ce) && (decide (0 ≤ now) && decide (now ≤ s.u))
def LsPost (w : World) (L : List Int) (e : Ending) (w' : World) : Prop := ∃ B d, e = .returned (.slice B L.length d) ∧ Sl w' (· < w.heap.size) 1 B L.length (icellsC L) ∧ Same w w'

section
variable (w : World) (mb tb sb : Nat) (A : Option Addr) (cp : Nat) (c : CF) (l : List St) (hD : DM w mb tb sb A cp c l)
include hD
set_option maxRecDepth 100000 in
set_option maxHeartbeats 4000000 in
theorem active_any (ce now : Int) : Calls Try.prog 16 #[.pointer (some ⟨mb, 0, none⟩), .int .i64 ce, .int .i64 now] w (LsPost w (pick (actB ce now) l l.length)) := by
  have h9 := hD.ok.hi
  have hlen := hD.ok.len
  have t0 : w.cell? ⟨mb, 0, none⟩ = some (.int .i64 c.cen) := hD.top.at_ 0
  rw [← hlen] at t0 h9
  have HLA := hid (fun W (hk : Same w W) d => last_any W tb sb l (hD.same hk).tab d)
  have HT3 := hid (fun W (hk : Same w W) => (hD.same hk).top.at_ 3)
  clear hD hlen
  go_enter Try.func16, Try.ntmps16
  go_wp2_with fail
  clear t0
  go_loopw [7, 16] (fun v i wr => ∃ (k : Nat) (B : Option Addr) (d : Nat), k ≤ l.length ∧ i = .int .i64 k ∧ v = .slice B (pick (actB ce now) l k).length d ∧ Hid (Own wr w.heap.size 3 1 (.slice B (pick (actB ce now) l k).length d) (pick (actB ce now) l k).length (icellsC (pick (actB ce now) l k)) ∧ Same w wr)) (fun _ i _ => l.length - (intOf i).toNat)
  case atStart => exact ⟨0, none, 0, by omega, rfl, rfl, hid ⟨Own.nil _ _ _ _, Keep.refl _ _⟩⟩
  case round =>
    obtain ⟨k, B, d, hk, rfl, rfl, HI⟩ := hrel
    by_cases hlt : k < l.length
    · obtain ⟨s, hs⟩ := get_some hlt
      have hk1 : (k : Int) < (l.length : Int) := by omega
      have hple := pick_le (p := actB ce now) (l := l) k
      have HY := hid (pick_yes (p := actB ce now) hs)
      have HN := hid (pick_no (p := actB ce now) hs)
      have hL1 := HLA.out wr HI.out.2 k
      rw [last_at hs] at hL1
      have HL1 := hid hL1
      have t3 : wr.cell? ⟨mb, 3, none⟩ = some (.pointer (some ⟨tb, 0, none⟩)) := HT3.out wr HI.out.2
      have hab : actB ce now s = (decide (s.h = ce) && (decide (0 ≤ now) && decide (now ≤ s.u))) := rfl
      generalize hPT : pick (actB ce now) l k = PT at *
      generalize actB ce now s = ab at *
      clear hs hPT hL1
      by_cases g1 : s.h = ce
      · have g1' : (s.h == ce) = true := by simp [g1]
        have HAB : Hid (ab = (decide (0 ≤ now) && decide (now ≤ s.u))) := hid (by rw [hab]; simp [g1])
        clear g1 hab
        generalize hvb : (decide (0 ≤ now) && decide (now ≤ s.u)) = vb at *
        have HV := hid (fun W => by have := valid_any s.u now W; rw [hvb] at this; exact this : ∀ W, Calls Try.prog 39 #[.int .i64 s.u, .int .i64 now] W fun e w' => e = .returned (.bool vb) ∧ W = w')
        clear hvb
        go_wp2_with fail
        (with_reducible refine HL1.out.mono ?_)
        rintro e w2 ⟨rfl, hk2⟩
        have HK2 := hid (HI.out.2.then hk2)
        have HO2 := hid (HI.out.1.keep hk2 (fun _ _ _ f => f))
        have hsz1 : w.heap.size ≤ w2.heap.size := HK2.out.size
        clear hk2 t3
        cases vb
        · have HN2 := hid (HN.out HAB.out)
          go_wp2_with (go_at_call 39; (with_reducible refine (HV.out _).mono ?_); rintro e w3 ⟨rfl, rfl⟩)
          go_roundw
          case rel => exact ⟨k + 1, B, d, by omega, by go_num, by rw [HN2.out], hid (by rw [HN2.out]; exact ⟨HO2.out, HK2.out⟩)⟩
          case measure => simp [intOf]; omega
        · have HN2 := hid (HY.out HAB.out)
          go_wp2_with (first
            | (go_at_call 39; (with_reducible refine (HV.out _).mono ?_); rintro e w3 ⟨rfl, rfl⟩)
            | (at_builtin
               refine E24.law (.tmp 37) (.tmp 39) (.slice B PT.length d) (some ⟨w2.heap.size, 0, none⟩) 1 1 rfl rfl rfl rfl w.heap.size PT.length _ [.int .i64 k] (HO2.out.keep ((Keep.refl (fun _ => False) w2).alloc _) (fun _ _ _ f => f)) rfl
                 (fun _ => ⟨_, rfl, src_new rfl⟩) (by intro u hu; simp at hu; subst hu; rfl) (by omega) (by unfold maxLen; omega) (by simp; omega) ?_
               intro A' c' w4 hown hg
               have HOW := hid hown
               have HG := hid hg
               clear hown hg))
          go_roundw
          case rel =>
            refine ⟨k + 1, A', c', by omega, by go_num, by rw [HN2.out]; simp, hid ?_⟩
            rw [HN2.out, icells_snoc]
            refine ⟨by simpa using HOW.out, (HK2.out.alloc _).grown HG.out (fun g e hl => by have := HO2.out.block g e; omega)⟩
          case measure => simp [intOf]; omega
      · have g1' : (s.h == ce) = false := by simp [g1]
        have HN2 := hid (HN.out (by rw [hab]; simp [g1]))
        clear g1 hab
        go_wp2_with fail
        (with_reducible refine HL1.out.mono ?_)
        rintro e w2 ⟨rfl, hk2⟩
        have HK2 := hid (HI.out.2.then hk2)
        have HO2 := hid (HI.out.1.keep hk2 (fun _ _ _ f => f))
        clear hk2 t3
        go_wp2_with fail
        go_roundw
        case rel => exact ⟨k + 1, B, d, by omega, by go_num, by rw [HN2.out], hid (by rw [HN2.out]; exact ⟨HO2.out, HK2.out⟩)⟩
        case measure => simp [intOf]; omega
    · obtain rfl : k = l.length := by omega
      go_wp2_with fail
      go_ret
      exact ⟨B, d, rfl, HI.out.1.sl (fun g hg => by omega), HI.out.2⟩
theorem dchecksum_any : Calls Try.prog 27 #[.pointer (some ⟨mb, 0, none⟩)] w fun e w' => e = .returned (.int .u64 (ckR l)) ∧ Same w w' := by
  have t3 : w.cell? ⟨mb, 3, none⟩ = some (.pointer (some ⟨tb, 0, none⟩)) := hD.top.at_ 3
  have HC := hid (checksum_any w tb sb l hD.tab)
  clear hD
  go_enter Try.func27, Try.ntmps27
  go_wp2_with (go_at_call 43; refine HC.out.mono ?_; rintro e w' ⟨rfl, hs⟩)
  go_ret
  exact ⟨rfl, hs⟩
end
end Go.Proofs.Ytmkcphhgimlkgaa

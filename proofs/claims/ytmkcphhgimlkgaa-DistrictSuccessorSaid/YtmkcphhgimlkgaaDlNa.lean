import Derived.Test.YtmkcphhgimlkgaaDiL
import Derived.Test.YtmkcphhgimlkgaaDiJ
namespace Go.Proofs.Ytmkcphhgimlkgaa
open Go.RowKit

/-! ## The nodes of a district -/
def eqB (d : Int) (x : Int) : Bool := decide (x = d)
theorem pick_none {α : Type} {p : α → Bool} {l : List α} (h : ∀ a ∈ l, p a = false) (k : Nat) : pick p l k = [] := by
  induction k with
  | zero => simp [pick]
  | succ k ih =>
    rw [pick_succ, ih]
    cases hk : l[k]? with
    | none => rfl
    | some a => simp [h a (List.mem_of_getElem? hk)]
theorem pick_len {α : Type} {p : α → Bool} {l : List α} (k : Nat) (hk : k ≤ l.length) : (pick p l k).length = (l.take k).countP p := by
  induction k with
  | zero => simp [pick]
  | succ k ih =>
    obtain ⟨a, ha⟩ := get_some (l := l) (k := k) (by omega)
    rw [take_snoc ha, List.countP_append, ← ih (by omega)]
    cases hp : p a
    · rw [pick_no ha hp]; simp [hp]
    · rw [pick_yes ha hp]; simp [hp]
theorem pick_all {α : Type} {p : α → Bool} {l : List α} : (pick p l l.length).length = l.countP p := by
  rw [pick_len l.length (Nat.le_refl _), List.take_of_length_le (Nat.le_refl _)]
/-- how many nodes the first n districts hold -/
def sumD (l : List Int) : Nat → Nat
  | 0 => 0
  | n + 1 => sumD l n + l.countP (eqB n)
theorem sumD_nil (n : Nat) : sumD [] n = 0 := by induction n with
  | zero => rfl
  | succ n ih => simp [sumD, ih]
theorem sumD_cons (a : Int) (l : List Int) (n : Nat) (h0 : 0 ≤ a) : sumD (a :: l) n = sumD l n + if a < n then 1 else 0 := by
  induction n with
  | zero => simp [sumD]; omega
  | succ n ih =>
    simp only [sumD, ih, List.countP_cons]
    by_cases h1 : a = n
    · have h2 : eqB (n : Int) a = true := by simp [eqB, h1]
      rw [if_pos h2, if_neg (show ¬ a < (n : Int) by omega), if_pos (show a < ((n + 1 : Nat) : Int) by omega)]
      omega
    · have h2 : ¬ eqB (n : Int) a = true := by simp [eqB, h1]
      rw [if_neg h2]
      by_cases h3 : a < (n : Int)
      · rw [if_pos h3, if_pos (show a < ((n + 1 : Nat) : Int) by omega)]; omega
      · rw [if_neg h3, if_neg (show ¬ a < ((n + 1 : Nat) : Int) by omega)]; omega
theorem sumD_all {l : List Int} {n : Nat} (h : ∀ a ∈ l, 0 ≤ a ∧ a < n) : sumD l n = l.length := by
  induction l with
  | nil => rw [sumD_nil]; rfl
  | cons a l ih =>
    have ha := h a (by simp)
    rw [sumD_cons a l n ha.1, ih (fun b hb => h b (by simp [hb])), if_pos ha.2]; rfl

set_option maxRecDepth 100000 in
set_option maxHeartbeats 4000000 in
theorem dnodes_any (w : World) (mb tb sb : Nat) (A : Option Addr) (cp : Nat) (c : CF) (l : List St) (hD : DM w mb tb sb A cp c l) (hn : c.dis.length ≤ 4096) (d : Int) :
    Calls Try.prog 21 #[.pointer (some ⟨mb, 0, none⟩), .int .i64 d] w (LsPost w (pick (eqB d) c.dis c.dis.length)) := by
  have t1 : w.cell? ⟨mb, 1, none⟩ = some (.slice A c.dis.length cp) := hD.top.at_ 1
  have HS := hid (fun W (hk : Same w W) => hD.dis.same hk)
  clear hD
  generalize c.dis = dis at *
  go_enter Try.func21, Try.ntmps21
  go_wp2_with fail
  clear t1
  go_loopw [5, 13] (fun v i wr => ∃ (k : Nat) (B : Option Addr) (cd : Nat), k ≤ dis.length ∧ i = .int .i64 k ∧ v = .slice B (pick (eqB d) dis k).length cd ∧ Hid (Own wr w.heap.size 3 1 (.slice B (pick (eqB d) dis k).length cd) (pick (eqB d) dis k).length (icellsC (pick (eqB d) dis k)) ∧ Same w wr)) (fun _ i _ => dis.length - (intOf i).toNat)
  case atStart => exact ⟨0, none, 0, by omega, rfl, rfl, hid ⟨Own.nil _ _ _ _, Keep.refl _ _⟩⟩
  case round =>
    obtain ⟨k, B, cd, hk, rfl, rfl, HI⟩ := hrel
    by_cases hlt : k < dis.length
    · obtain ⟨a, ha⟩ := get_some hlt
      obtain ⟨b, off, rfl, _, q⟩ := ints_at (HS.out wr HI.out.2) ha
      have hk1 : (k : Int) < (dis.length : Int) := by omega
      have hple := pick_le (p := eqB d) (l := dis) k
      have HY := hid (pick_yes (p := eqB d) ha)
      have HN := hid (pick_no (p := eqB d) ha)
      have hab : eqB d a = decide (a = d) := rfl
      generalize hPT : pick (eqB d) dis k = PT at *
      generalize eqB d a = ab at *
      have hsz1 : w.heap.size ≤ wr.heap.size := HI.out.2.size
      clear ha hPT
      by_cases g1 : a = d
      · have g1' : (a == d) = true := by simp [g1]
        have HN2 := hid (HY.out (by rw [hab]; simp [g1]))
        clear g1 hab
        go_wp2_with (
          at_builtin
          refine E24.law (.tmp 21) (.tmp 23) (.slice B PT.length cd) (some ⟨wr.heap.size, 0, none⟩) 1 1 rfl rfl rfl rfl w.heap.size PT.length _ [.int .i64 k] (HI.out.1.keep ((Keep.refl (fun _ => False) wr).alloc _) (fun _ _ _ f => f)) rfl
            (fun _ => ⟨_, rfl, src_new rfl⟩) (by intro u hu; simp at hu; subst hu; rfl) (by omega) (by unfold maxLen; omega) (by simp; omega) ?_
          intro A' c' w4 hown hg
          have HOW := hid hown
          have HG := hid hg
          clear hown hg)
        go_roundw
        case rel =>
          refine ⟨k + 1, A', c', by omega, by go_num, by rw [HN2.out]; simp, hid ?_⟩
          rw [HN2.out, icells_snoc]
          exact ⟨by simpa using HOW.out, (HI.out.2.alloc _).grown HG.out (fun g e hl => by have h3 := HI.out.1.block g e; omega)⟩
        case measure => simp [intOf]; omega
      · have g1' : (a == d) = false := by simp [g1]
        have HN2 := hid (HN.out (by rw [hab]; simp [g1]))
        clear g1 hab
        go_wp2_with fail
        go_roundw
        case rel => exact ⟨k + 1, B, cd, by omega, by go_num, by rw [HN2.out], hid (by rw [HN2.out]; exact HI.out)⟩
        case measure => simp [intOf]; omega
    · obtain rfl : k = dis.length := by omega
      go_wp2_with fail
      go_ret
      exact ⟨B, cd, rfl, HI.out.1.sl (fun g hg => by omega), HI.out.2⟩

set_option maxRecDepth 100000 in
set_option maxHeartbeats 4000000 in
theorem rnodes_any (w : World) (c : CF) (hS : Sl w (fun _ => False) 1 c.D c.dis.length (icellsC c.dis)) (hn : c.dis.length ≤ 4096) (X : Option Addr) (m cx : Nat) (d : Int) :
    Calls Try.prog 19 #[.agg (map16 c X m cx).toArray, .int .i64 d] w (LsPost w (pick (eqB d) c.dis c.dis.length)) := by
  have hb := Blk.made w 36 (map16 c X m cx).toArray
  have hw : Same w (w.alloc (.cells (map16 c X m cx).toArray 36)) := (Keep.refl _ _).alloc _
  generalize hw1 : w.alloc (.cells (map16 c X m cx).toArray 36) = w1 at *
  have t1 : w1.cell? ⟨w.heap.size, 1, none⟩ = some (.slice c.D c.dis.length c.cD) := hb.at_ 1
  have HS := hid (fun W (hk : Same w1 W) => (hS.same hw).same hk)
  have HW := hid hw
  clear hb hw hS
  go_enter Try.func19, Try.ntmps19
  go_upto_region 1 with fail
  try rw [hw1]
  go_wp2_with fail
  clear t1
  generalize c.dis = dis at *
  generalize c.D = D at *
  go_loopw [5, 12] (fun v i wr => ∃ (k : Nat) (B : Option Addr) (cd : Nat), k ≤ dis.length ∧ i = .int .i64 k ∧ v = .slice B (pick (eqB d) dis k).length cd ∧ Hid (Own wr w1.heap.size 3 1 (.slice B (pick (eqB d) dis k).length cd) (pick (eqB d) dis k).length (icellsC (pick (eqB d) dis k)) ∧ Same w1 wr)) (fun _ i _ => dis.length - (intOf i).toNat)
  case atStart => exact ⟨0, none, 0, by omega, rfl, rfl, hid ⟨Own.nil _ _ _ _, Keep.refl _ _⟩⟩
  case round =>
    obtain ⟨k, B, cd, hk, rfl, rfl, HI⟩ := hrel
    by_cases hlt : k < dis.length
    · obtain ⟨a, ha⟩ := get_some hlt
      obtain ⟨b, off, rfl, _, q⟩ := ints_at (HS.out wr HI.out.2) ha
      have hk1 : (k : Int) < (dis.length : Int) := by omega
      have hple := pick_le (p := eqB d) (l := dis) k
      have HY := hid (pick_yes (p := eqB d) ha)
      have HN := hid (pick_no (p := eqB d) ha)
      have hab : eqB d a = decide (a = d) := rfl
      generalize hPT : pick (eqB d) dis k = PT at *
      generalize eqB d a = ab at *
      have hsz1 : w1.heap.size ≤ wr.heap.size := HI.out.2.size
      clear ha hPT
      by_cases g1 : a = d
      · have g1' : (a == d) = true := by simp [g1]
        have HN2 := hid (HY.out (by rw [hab]; simp [g1]))
        clear g1 hab
        go_wp2_with (
          at_builtin
          refine E24.law (.tmp 20) (.tmp 22) (.slice B PT.length cd) (some ⟨wr.heap.size, 0, none⟩) 1 1 rfl rfl rfl rfl w1.heap.size PT.length _ [.int .i64 k] (HI.out.1.keep ((Keep.refl (fun _ => False) wr).alloc _) (fun _ _ _ f => f)) rfl
            (fun _ => ⟨_, rfl, src_new rfl⟩) (by intro u hu; simp at hu; subst hu; rfl) (by omega) (by unfold maxLen; omega) (by simp; omega) ?_
          intro A' c' w4 hown hg
          have HOW := hid hown
          have HG := hid hg
          clear hown hg)
        go_roundw
        case rel =>
          refine ⟨k + 1, A', c', by omega, by go_num, by rw [HN2.out]; simp, hid ?_⟩
          rw [HN2.out, icells_snoc]
          exact ⟨by simpa using HOW.out, (HI.out.2.alloc _).grown HG.out (fun g e hl => by have h3 := HI.out.1.block g e; omega)⟩
        case measure => simp [intOf]; omega
      · have g1' : (a == d) = false := by simp [g1]
        have HN2 := hid (HN.out (by rw [hab]; simp [g1]))
        clear g1 hab
        go_wp2_with fail
        go_roundw
        case rel => exact ⟨k + 1, B, cd, by omega, by go_num, by rw [HN2.out], hid (by rw [HN2.out]; exact HI.out)⟩
        case measure => simp [intOf]; omega
    · obtain rfl : k = dis.length := by omega
      go_wp2_with fail
      go_ret
      exact ⟨B, cd, rfl, HI.out.1.sl (fun g hg => by have h2 := HW.out.size; omega), HW.out.then HI.out.2⟩
theorem dof_in (w : World) (mb tb sb : Nat) (A : Option Addr) (cp : Nat) (c : CF) (l : List St) (hD : DM w mb tb sb A cp c l) (i : Nat) (a : Int) (ha : c.dis[i]? = some a) :
    Calls Try.prog 22 #[.pointer (some ⟨mb, 0, none⟩), .int .i64 i] w fun e w' => e = .returned (.tuple #[.int .i64 a, .bool true]) ∧ w = w' := by
  have t1 : w.cell? ⟨mb, 1, none⟩ = some (.slice A c.dis.length cp) := hD.top.at_ 1
  obtain ⟨b, off, rfl, _, q⟩ := ints_at hD.dis ha
  have hi : (i : Int) < (c.dis.length : Int) := by have := (List.getElem?_eq_some_iff.1 ha).1; omega
  clear hD ha
  go_enter Try.func22, Try.ntmps22
  go_wp2_with fail
  go_ret2
  exact ⟨rfl, rfl⟩
theorem dof_out (w : World) (mb tb sb : Nat) (A : Option Addr) (cp : Nat) (c : CF) (l : List St) (hD : DM w mb tb sb A cp c l) (i : Int) (h : i < 0 ∨ (0 ≤ i ∧ (c.dis.length : Int) ≤ i)) :
    Calls Try.prog 22 #[.pointer (some ⟨mb, 0, none⟩), .int .i64 i] w fun e w' => e = .returned (.tuple #[.int .i64 0, .bool false]) ∧ w = w' := by
  have t1 : w.cell? ⟨mb, 1, none⟩ = some (.slice A c.dis.length cp) := hD.top.at_ 1
  clear hD
  rcases h with h | ⟨h, h2⟩
  all_goals
    go_enter Try.func22, Try.ntmps22
    go_wp2_with fail
    go_ret2
    exact ⟨rfl, rfl⟩
end Go.Proofs.Ytmkcphhgimlkgaa

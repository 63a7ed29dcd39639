import Derived.Test.YtkkenfgpmoediaaCallH
namespace Go.Proofs.Ytkkenfgpmoediaa
open Go.RowKit

/-! ## Operations in memory; small; alive -/
def actCells (l : List LA) : List Value := l.flatMap LA.cells
theorem actCells_get (l : List LA) (i j : Nat) (hj : j < 6) : (actCells l)[i * 6 + j]? = (l[i]?).bind (fun s => s.cells[j]?) := flat_get LA.cells 6 (fun _ => rfl) l i j hj
theorem acts_len {w : World} {Av : Nat → Prop} {A : Option Addr} {n : Nat} {l : List LA} (h : Sl w Av 6 A n (actCells l)) : l.length = n := by
  have := h.len
  rw [show (actCells l).length = l.length * 6 from flat_len LA.cells 6 (fun _ => rfl) l] at this
  omega
theorem acts_at {w : World} {Av : Nat → Prop} {A : Option Addr} {n : Nat} {l : List LA} (h : Sl w Av 6 A n (actCells l)) {k : Nat} {a : LA} (ha : l[k]? = some a) : ∃ b off, A = some ⟨b, off, none⟩ ∧ b < w.heap.size ∧
    w.cell? ⟨b, off + k * 6, none⟩ = some (.int .i64 a.k) ∧ w.cell? ⟨b, off + k * 6 + 1, none⟩ = some (.int .i64 a.cen) ∧ w.cell? ⟨b, off + k * 6 + 2, none⟩ = some (.int .i64 a.n) ∧ w.cell? ⟨b, off + k * 6 + 3, none⟩ = some (.int .i64 a.ep) ∧
    w.cell? ⟨b, off + k * 6 + 4, none⟩ = some (.int .i64 a.tk) ∧ w.cell? ⟨b, off + k * 6 + 5, none⟩ = some (.string a.tree) := by
  have hk := (List.getElem?_eq_some_iff.1 ha).1
  have hl := acts_len h
  obtain ⟨b, off, e, hb, _, hr⟩ := h.at_ (by omega)
  have g := fun j (hj : j < 6) u (hu : a.cells[j]? = some u) => hr (k * 6 + j) u (by rw [actCells_get l k j hj, ha]; exact hu)
  exact ⟨b, off, e, hb, g 0 (by omega) _ rfl, g 1 (by omega) _ rfl, g 2 (by omega) _ rfl, g 3 (by omega) _ rfl, g 4 (by omega) _ rfl, g 5 (by omega) _ rfl⟩
def smallL (l : List LA) : Bool := l.all (fun a => decide (a.tree.size ≤ 100)) && decide (l.length ≤ 60)
set_option maxHeartbeats 2000000 in
set_option maxRecDepth 100000 in
theorem small_any (w : World) (A : Option Addr) (n c : Nat) (l : List LA) (h : Sl w (fun _ => False) 6 A n (actCells l)) (hn : n ≤ maxLen) : Calls Try.prog 7 #[.slice A n c] w fun e w' => e = .returned (.bool (smallL l)) ∧ Same w w' := by
  have hl := acts_len h
  have HS := hid (fun W (hk : Same w W) => h.same hk)
  have HN := hid hl
  unfold maxLen at hn
  clear h hl
  go_enter Try.func7, Try.ntmps7
  go_wp2_with fail
  go_loopw [7] (fun i wr => ∃ k : Nat, k ≤ n ∧ i = .int .i64 k ∧ Hid (Same w wr ∧ (l.take k).all (fun a => decide (a.tree.size ≤ 100)) = true)) (fun i _ => n - (RowKit.intOf i).toNat)
  case atStart => exact ⟨0, by omega, rfl, hid ⟨Keep.refl _ w, by simp⟩⟩
  case round =>
    obtain ⟨k, hk, rfl, HI⟩ := hrel
    by_cases hlt : k < n
    · obtain ⟨a, ha⟩ := get_some (l := l) (k := k) (by have := HN.out; omega)
      obtain ⟨b, off, rfl, hb, q0, q1, q2, q3, q4, q5⟩ := acts_at (HS.out wr HI.out.1) ha
      have HT := hid (take_all (p := fun a : LA => decide (a.tree.size ≤ 100)) ha)
      have HNo := hid (fun hp => all_no (p := fun a : LA => decide (a.tree.size ≤ 100)) ha hp)
      obtain ⟨ak, acen, an, aep, atk, atree⟩ := a
      simp only at q0 q1 q2 q3 q4 q5
      generalize hz : atree.size = z at *
      have hk1 : (k : Int) < (n : Int) := by omega
      have hk2 : (k : Int) + 1 ≤ 9223372036854775807 := by omega
      clear ha
      by_cases h100 : 100 < z
      · have HF := hid (HNo.out (by simp; omega))
        have h100i : (100 : Int) < (z : Int) := by omega
        go_wp2_with fail
        go_ret
        exact ⟨by unfold smallL; rw [HF.out]; rfl, HI.out.1.alloc _⟩
      · have h100i : ¬ (100 : Int) < (z : Int) := by omega
        go_wp2_with fail
        go_roundw
        case rel => exact ⟨k + 1, by omega, by go_num, hid ⟨HI.out.1.alloc _, by rw [HT.out, HI.out.2]; simp; omega⟩⟩
        case measure => simp [RowKit.intOf]; omega
    · have e1 : l.take k = l := List.take_of_length_le (by have := HN.out; omega)
      obtain rfl : k = n := by omega
      go_wp2_with fail
      go_ret
      refine ⟨?_, HI.out.1⟩
      have h2 := HI.out.2
      rw [e1] at h2
      unfold smallL
      rw [h2, HN.out, Bool.true_and]
      by_cases h60 : k ≤ 60
      · rw [decide_eq_true h60, decide_eq_true (show (k : Int) ≤ 60 by omega)]; rfl
      · rw [decide_eq_false h60, decide_eq_false (show ¬ (k : Int) ≤ 60 by omega)]; rfl
def mainS : ByteArray := ⟨#[109, 97, 105, 110]⟩
def al0 : CL := ⟨7, 1, 5, -1, 0, ⟨#[]⟩, 0, []⟩
def al1 : CL := ⟨7, 1, 5, 2, 1, ⟨#[]⟩, 0, []⟩
def al2 : CL := ⟨7, 2, -1, 2, 1, mainS, 1, []⟩
def al3 : CL := ⟨7, 2, -1, 2, 1, mainS, 1, [0]⟩
def al4 : CL := ⟨7, 1, 9, 0, 2, mainS, 1, [0]⟩
theorem al_01 : assignS al0 2 1 5 = al1 ∧ assignE al0 2 1 5 = 0 := ⟨by kernel_rfl, by kernel_rfl⟩
theorem al_12 : acceptS al1 1 mainS 1 = al2 ∧ acceptE al1 1 mainS 1 = 0 := ⟨by kernel_rfl, by kernel_rfl⟩
theorem al_23 : sayS al2 0 = al3 ∧ sayE al2 0 = 0 := ⟨by kernel_rfl, by kernel_rfl⟩
theorem al_34 : assignS al3 0 2 9 = al4 ∧ assignE al3 0 2 9 = 0 := ⟨by kernel_rfl, by kernel_rfl⟩
theorem al_44 : closeS al4 1 = al4 ∧ closeE al4 1 = 9 := ⟨by kernel_rfl, by kernel_rfl⟩
set_option maxHeartbeats 4000000 in
set_option maxRecDepth 100000 in
theorem alive_any (w : World) : Calls Try.prog 6 #[] w fun e w' => e = .returned (.bool true) ∧ Same w w' := by
  go_enter Try.func6, Try.ntmps6
  go_wp2_with (first
    | (go_at_call 8; refine (new_any w 7 5 (by decide) (by decide)).mono ?_; rintro e w1 ⟨rfl, hl, hk⟩
       have HL0 : Hid (LS w w1 w.heap.size al0) := hid ⟨_, _, _, hl, hk, Nat.le_refl _, fun g e => by cases e⟩
       generalize w.heap.size = lb at *
       clear hl hk)
    | (go_at_call 19; refine (LS.op (s' := al4) HL3.out (fun r A c h => by have := assign_any _ _ r A c _ h 0 2 9; rwa [al_34.1, al_34.2] at this)).mono ?_; rintro e w5 ⟨rfl, hl⟩
       have HL4 := hid hl
       have HL1 := HL4
       have HL4s := HL4
       clear hl)
    | (go_at_call 19; refine (LS.op (s' := al1) HL0.out (fun r A c h => by have := assign_any _ _ r A c _ h 2 1 5; rwa [al_01.1, al_01.2] at this)).mono ?_; rintro e w2 ⟨rfl, hl⟩
       have HL1 := hid hl
       clear hl HL0)
    | (go_at_call 15; refine (LS.op (s' := al2) HL1.out (fun r A c h => by have := accept_any _ _ r A c _ h 1 mainS 1; rwa [al_12.1, al_12.2] at this)).mono ?_; rintro e w3 ⟨rfl, hl⟩
       have HL2 := hid hl
       clear hl)
    | (go_at_call 13; refine (HL5.out.state).mono ?_; rintro e w7 ⟨rfl, rfl⟩)
    | (go_at_call 13; refine (HL2.out.state).mono ?_; rintro e w7 ⟨rfl, rfl⟩)
    | (go_at_call 20; refine (LS.op (s' := al3) HL2.out (fun r A c h => by have := say_any _ _ r A c _ h 0; rwa [al_23.1, al_23.2] at this)).mono ?_; rintro e w4 ⟨rfl, hl⟩
       have HL3 := hid hl
       clear hl)
    | (go_at_call 17; refine (LS.op (s' := al4) HL4.out (fun r A c h => by have := close_any _ _ r A c _ h 1; rwa [al_44.1, al_44.2] at this)).mono ?_; rintro e w6 ⟨rfl, hl⟩
       have HL5 := hid hl
       clear hl)
    | (go_at_call 10; refine (HL5.out.owner).mono ?_; rintro e w7 ⟨rfl, hk⟩
       have HL6 := hid (HL5.out.same hk)
       have HL5 := HL6
       clear hk)
    | (go_at_call 21; refine (HL5.out.sinceC).mono ?_; rintro e w7 ⟨rfl, rfl⟩)
    | (go_at_call 11; refine (HL5.out.answers (by decide)).mono ?_; rintro e w8 ⟨B, d, rfl, _, hk⟩
       have HK8 := hid (HL5.out.kept.then hk)
       clear hk))
  go_ret
  exact ⟨rfl, HK8.out⟩
end Go.Proofs.Ytkkenfgpmoediaa

import Derived.Test.YtmkcphhgimlkgaaConfB
import Derived.Test.YtmkcphhgimlkgaaConfC
import Derived.Test.YtmkcphhgimlkgaaConfE
import Derived.Deep.Cut
namespace Go.Proofs.Ytmkcphhgimlkgaa
open Go.RowKit Go.PlainAid

section
variable (w : World)

/-! ## slices.ContainsFunc -/
theorem outside_any (g : Nat) (d cen : Int) (hc : w.cell? ⟨g, 0, none⟩ = some (.int .i64 cen)) : Calls Try.prog 62 #[.int .i64 d, .pointer (some ⟨g, 0, none⟩)] w fun e w' => e = .returned (.bool (!(inB d cen))) ∧ w = w' := by
  have HIK := hid isIndex_any
  go_enter Try.func62, Try.ntmps62
  go_wp2_with (go_at_call 63; (with_reducible refine (HIK.out _ _ _).mono ?_); rintro e w9 ⟨rfl, rfl⟩)
  go_ret
  exact ⟨rfl, rfl⟩
def IdxPost (w : World) (b : Bool) (e : Ending) (w' : World) : Prop := ∃ i : Int, e = .returned (.int .i64 i) ∧ decide (0 ≤ i) = !b ∧ w = w'
theorem index_any (g : Nat) (cen : Int) (A : Option Addr) (c : Nat) (l : List Int) (hs : Sl w (fun _ => False) 1 A l.length (icellsC l)) (hl : l.length ≤ maxLen) (hc : w.cell? ⟨g, 0, none⟩ = some (.int .i64 cen)) :
    Calls Try.prog 82 #[.slice A l.length c, .func (.func 62) #[] #[.pointer (some ⟨g, 0, none⟩)]] w (IdxPost w (l.all (fun d => inB d cen))) := by
  have HS := hid hs
  have HL := hid hl
  have HO := hid (outside_any w g)
  clear hs hl
  have HB := hid (show ∀ b, b = l.all (fun d => inB d cen) → b = l.all (fun d => inB d cen) from fun _ h => h)
  generalize hp : (fun d => inB d cen) = p at *
  have HP := hid (fun d => (congrFun hp d).symm)
  clear hp HB
  go_enter Try.func82, Try.ntmps82
  go_wp2_with fail
  go_loopw [8] (fun i wr => ∃ k : Nat, k ≤ l.length ∧ i = .int .i64 k ∧ Hid (wr = w ∧ (l.take k).all p = true)) (fun i _ => l.length - (RowKit.intOf i).toNat)
  case atStart => exact ⟨0, by omega, rfl, hid ⟨rfl, by simp⟩⟩
  case round =>
    obtain ⟨k, hk, rfl, HI⟩ := hrel
    obtain ⟨rfl, hi0⟩ := HI.out
    clear HI
    have HI := hid hi0
    clear hi0
    by_cases hlt : k < l.length
    · obtain ⟨a, ha⟩ := get_some (l := l) (k := k) hlt
      obtain ⟨b, off, rfl, hb3, q0⟩ := ints_at HS.out ha
      have HT := hid (take_all (p := p) ha)
      have HNo := hid (fun hp => all_no (p := p) ha hp)
      have hk1 : (k : Int) < (l.length : Int) := by omega
      clear ha
      have HPa := hid (HP.out a)
      by_cases i1 : inB a cen = true
      · go_upto_region 6 with (go_at_call 62; (with_reducible refine (HO.out _ _ hc).mono ?_); rintro e w9 ⟨rfl, rfl⟩; rw [i1])
        have hk2 : (k : Int) + 1 ≤ 9223372036854775807 := by have := HL.out; unfold maxLen at this; omega
        go_wp2_with fail
        go_roundw
        case rel => exact ⟨k + 1, by omega, by go_num, hid ⟨by trivial, by rw [HT.out, HI.out, HPa.out, i1]; rfl⟩⟩
        case measure => simp [RowKit.intOf]; omega
      · have i1' : inB a cen = false := by simpa using i1
        clear i1
        go_wp2_with (go_at_call 62; (with_reducible refine (HO.out _ _ hc).mono ?_); rintro e w9 ⟨rfl, rfl⟩; rw [i1'])
        go_ret
        exact ⟨_, rfl, by rw [HNo.out (by rw [HPa.out, i1']), decide_eq_true (by omega)]; rfl, rfl⟩
    · have e1 : l.take k = l := List.take_of_length_le (by omega)
      have hk1 : (l.length : Int) ≤ (k : Int) := by omega
      have h2 := HI.out
      rw [e1] at h2
      have H2 := hid h2
      clear h2 e1
      go_wp2_with fail
      go_ret
      exact ⟨_, rfl, by rw [H2.out]; rfl, rfl⟩
theorem contains_any (g : Nat) (cen : Int) (A : Option Addr) (c : Nat) (l : List Int) (hs : Sl w (fun _ => False) 1 A l.length (icellsC l)) (hl : l.length ≤ maxLen) (hc : w.cell? ⟨g, 0, none⟩ = some (.int .i64 cen)) :
    Calls Try.prog 61 #[.slice A l.length c, .func (.func 62) #[] #[.pointer (some ⟨g, 0, none⟩)]] w fun e w' => e = .returned (.bool (!(l.all (fun d => inB d cen)))) ∧ w = w' := by
  have HX := hid (index_any w g cen A c l hs hl hc)
  clear hs hl hc
  generalize l.all (fun d => inB d cen) = b at *
  go_enter Try.func61, Try.ntmps61
  go_wp2_with (go_at_call 82; (with_reducible refine HX.out.mono ?_); rintro e w9 ⟨i, rfl, hi, rfl⟩; have HJ := hid hi; clear hi)
  go_ret
  exact ⟨ret_of (congrArg Value.bool HJ.out), rfl⟩
/-! ## The number of the first problem -/
def VB4 (c : CF) : Prop := 1 ≤ c.cen ∧ c.cen ≤ 9 ∧ 1 ≤ (c.dis.length : Int) ∧ (c.dis.length : Int) ≤ 4096
def disB (c : CF) : Bool := c.dis.all (fun d => inB d c.cen)
theorem VB4.b1 {c : CF} (h : VB4 c) : (decide (1 ≤ c.cen) && decide (c.cen ≤ 9)) = true := by obtain ⟨h1, h2, _⟩ := h; simp [h1, h2]
theorem VB4.b2 {c : CF} (h : VB4 c) : (decide (1 ≤ c.dis.length) && decide (c.dis.length ≤ 4096)) = true := by
  obtain ⟨_, _, h1, h2⟩ := h
  rw [decide_eq_true (show 1 ≤ c.dis.length by omega), decide_eq_true (show c.dis.length ≤ 4096 by omega)]; rfl
theorem vnum1 {c : CF} (h : ¬ 1 ≤ c.cen ∨ ¬ c.cen ≤ 9) : 1 = vnum c := by
  rw [vnum, if_pos (by rcases h with h | h <;> simp [h])]
theorem vnum2 {c : CF} (h1 : 1 ≤ c.cen) (h2 : c.cen ≤ 9) (h : ¬ 1 ≤ (c.dis.length : Int) ∨ ¬ (c.dis.length : Int) ≤ 4096) : 2 = vnum c := by
  rw [vnum, if_neg (by simp [h1, h2]), if_pos]
  rcases h with h | h
  · rw [decide_eq_false (show ¬ 1 ≤ c.dis.length by omega)]; rfl
  · rw [decide_eq_false (show ¬ c.dis.length ≤ 4096 by omega), Bool.and_false]
theorem vnum3 {c : CF} (h : VB4 c) (h3 : disB c = false) : 3 = vnum c := by
  rw [disB] at h3
  rw [vnum, if_neg (by rw [h.b1]; simp), if_neg (by rw [h.b2]; simp), if_pos h3]
theorem vnum4 {c : CF} (h : VB4 c) (h3 : disB c = true) (h4 : edgesB c = false) : 4 = vnum c := by
  rw [disB] at h3
  rw [vnum, if_neg (by rw [h.b1]; simp), if_neg (by rw [h.b2]; simp), if_neg (by rw [h3]; simp), if_pos h4]
theorem vnum5 {c : CF} (h : VB4 c) (h3 : disB c = true) (h4 : edgesB c = true) (h5 : unitsB c = false) : 5 = vnum c := by
  rw [disB] at h3
  rw [vnum, if_neg (by rw [h.b1]; simp), if_neg (by rw [h.b2]; simp), if_neg (by rw [h3]; simp), if_neg (by rw [h4]; simp), if_pos h5]
theorem vnum6 {c : CF} (h : VB4 c) (h3 : disB c = true) (h4 : edgesB c = true) (h5 : unitsB c = true) (h6 : plansB c.pla = false) : 6 = vnum c := by
  rw [disB] at h3
  rw [vnum, if_neg (by rw [h.b1]; simp), if_neg (by rw [h.b2]; simp), if_neg (by rw [h3]; simp), if_neg (by rw [h4]; simp), if_neg (by rw [h5]; simp), if_pos h6]
theorem vnum7 {c : CF} (h : VB4 c) (h3 : disB c = true) (h4 : edgesB c = true) (h5 : unitsB c = true) (h6 : plansB c.pla = true) (h7 : parB c = false) : 7 = vnum c := by
  rw [disB] at h3
  rw [vnum, if_neg (by rw [h.b1]; simp), if_neg (by rw [h.b2]; simp), if_neg (by rw [h3]; simp), if_neg (by rw [h4]; simp), if_neg (by rw [h5]; simp), if_neg (by rw [h6]; simp), if_pos h7]
theorem vnum0 {c : CF} (h : VB4 c) (h3 : disB c = true) (h4 : edgesB c = true) (h5 : unitsB c = true) (h6 : plansB c.pla = true) (h7 : parB c = true) : 0 = vnum c := by
  rw [disB] at h3
  rw [vnum, if_neg (by rw [h.b1]; simp), if_neg (by rw [h.b2]; simp), if_neg (by rw [h3]; simp), if_neg (by rw [h4]; simp), if_neg (by rw [h5]; simp), if_neg (by rw [h6]; simp), if_neg (by rw [h7]; simp)]

/-! ## Validate -/
set_option maxRecDepth 100000 in
set_option maxHeartbeats 8000000 in
theorem validate_any (c : CF) (hm : CM w c) : Calls Try.prog 45 #[.agg c.cells.toArray] w fun e w' => e = .returned (.int .i64 (vnum c)) ∧ Same w w' := by
  have HW := hid ((Keep.refl (fun _ => False) w).alloc (.cells c.cells.toArray 27))
  have HE := hid (fun W (hk : Same w W) (hb : Blk W w.heap.size 27 c.cells.toArray) => validEdges_any W w.heap.size c hb (hm.same hk))
  have HU := hid (fun W (hk : Same w W) (hb : Blk W w.heap.size 27 c.cells.toArray) => validUnits_any W w.heap.size c hb (hm.same hk))
  have HP := hid (fun W (hk : Same w W) (hb : Blk W w.heap.size 27 c.cells.toArray) => validPlans_any W w.heap.size c hb (hm.same hk))
  have HQ := hid (fun W (hb : Blk W w.heap.size 27 c.cells.toArray) => validPars_any W w.heap.size c hb)
  have HD := hid (fun W (hk : Same w W) (hb : Blk W w.heap.size 27 c.cells.toArray) => contains_any W w.heap.size c.cen c.D c.cD c.dis (hm.same hk).dis (hm.same hk).lD ((hb.at_ 0).trans rfl))
  have hmf := mkfn
  have HB := hid (Blk.made w 27 c.cells.toArray)
  have HV := hid (fun h => @vnum3 c h)
  have HV1 := hid (fun h => @vnum4 c h)
  have HV2 := hid (fun h => @vnum5 c h)
  have HV3 := hid (fun h => @vnum6 c h)
  have HV4 := hid (fun h => @vnum7 c h)
  have HV5 := hid (fun h => @vnum0 c h)
  have hda : disB c = c.dis.all (fun d => inB d c.cen) := rfl
  rw [← hda] at HD
  clear hda hm
  simp only [CF.cells] at *
  by_cases k1 : 1 ≤ c.cen
  rotate_left 1
  · go_enter Try.func45, Try.ntmps45
    go_wp2_with fail
    go_ret
    exact ⟨ret_of (int_of (vnum1 (.inl (by omega)))), HW.out⟩
  by_cases k2 : c.cen ≤ 9
  rotate_left 1
  · go_enter Try.func45, Try.ntmps45
    go_wp2_with fail
    go_ret
    exact ⟨ret_of (int_of (vnum1 (.inr (by omega)))), HW.out⟩
  by_cases k3 : 1 ≤ (c.dis.length : Int)
  rotate_left 1
  · go_enter Try.func45, Try.ntmps45
    go_wp2_with fail
    go_ret
    exact ⟨ret_of (int_of (vnum2 k1 k2 (.inl (by omega)))), HW.out⟩
  by_cases k4 : (c.dis.length : Int) ≤ 4096
  rotate_left 1
  · go_enter Try.func45, Try.ntmps45
    go_wp2_with fail
    go_ret
    exact ⟨ret_of (int_of (vnum2 k1 k2 (.inr (by omega)))), HW.out⟩
  have HF := hid (show VB4 c from ⟨k1, k2, k3, k4⟩)
  go_enter Try.func45, Try.ntmps45
  go_wp2_with fail
  (with_reducible refine (HD.out _ HW.out HB.out).mono ?_)
  rintro e w1 ⟨rfl, rfl⟩
  have HW1 := hid HW.out
  have HB1 := hid HB.out
  cases hg : disB c
  · have HG0 := hid hg
    clear hg
    go_wp2_with fail
    go_ret
    exact ⟨ret_of (int_of (HV.out HF.out HG0.out)), HW1.out⟩
  · have HG0 := hid hg
    clear hg
    go_wp2_with fail
    (with_reducible refine (HE.out _ HW1.out HB1.out).mono ?_)
    rintro e w2 ⟨rfl, hs2⟩
    have HW2 := hid (HW1.out.then hs2)
    have HB2 := hid (HB1.out.keep (S := fun _ => False) hs2 (fun f => f))
    clear hs2
    cases hg : edgesB c
    · have HG1 := hid hg
      clear hg
      go_wp2_with fail
      go_ret
      exact ⟨ret_of (int_of (HV1.out HF.out HG0.out HG1.out)), HW2.out⟩
    · have HG1 := hid hg
      clear hg
      go_wp2_with fail
      (with_reducible refine (HU.out _ HW2.out HB2.out).mono ?_)
      rintro e w3 ⟨rfl, hs3⟩
      have HW3 := hid (HW2.out.then hs3)
      have HB3 := hid (HB2.out.keep (S := fun _ => False) hs3 (fun f => f))
      clear hs3
      cases hg : unitsB c
      · have HG2 := hid hg
        clear hg
        go_wp2_with fail
        go_ret
        exact ⟨ret_of (int_of (HV2.out HF.out HG0.out HG1.out HG2.out)), HW3.out⟩
      · have HG2 := hid hg
        clear hg
        go_wp2_with fail
        (with_reducible refine (HP.out _ HW3.out HB3.out).mono ?_)
        rintro e w4 ⟨rfl, hs4⟩
        have HW4 := hid (HW3.out.then hs4)
        have HB4 := hid (HB3.out.keep (S := fun _ => False) hs4 (fun f => f))
        clear hs4
        cases hg : plansB c.pla
        · have HG3 := hid hg
          clear hg
          go_wp2_with fail
          go_ret
          exact ⟨ret_of (int_of (HV3.out HF.out HG0.out HG1.out HG2.out HG3.out)), HW4.out⟩
        · have HG3 := hid hg
          clear hg
          go_wp2_with fail
          (with_reducible refine (HQ.out _ HB4.out).mono ?_)
          rintro e w5 ⟨rfl, hs5⟩
          have HW5 := hid (HW4.out.then hs5)
          have HB5 := hid (HB4.out.keep (S := fun _ => False) hs5 (fun f => f))
          clear hs5
          cases hg : parB c
          · have HG4 := hid hg
            clear hg
            go_wp2_with fail
            go_ret
            exact ⟨ret_of (int_of (HV4.out HF.out HG0.out HG1.out HG2.out HG3.out HG4.out)), HW5.out⟩
          · have HG4 := hid hg
            clear hg
            go_wp2_with fail
            go_ret
            exact ⟨ret_of (int_of (HV5.out HF.out HG0.out HG1.out HG2.out HG3.out HG4.out)), HW5.out⟩
end
end Go.Proofs.Ytmkcphhgimlkgaa

import Derived.Test.YtmkcphhgimlkgaaDiJ
import Derived.Deep.MidRow
namespace Go.Proofs.Ytmkcphhgimlkgaa
open Go.RowKit

/-! ## three, awake -/
def z15 : List Value := [.int .i64 0, .slice none 0 0, .slice none 0 0, .slice none 0 0, .slice none 0 0, .int .i64 0, .int .i64 0, .int .i64 0, .int .i64 0, .int .i64 0, .int .i64 0, .int .i64 0, .int .i64 0, .int .i64 0, .int .i64 0]
def d15 : List Value := [.int .i64 0, .slice none 0 0, .slice none 0 0, .slice none 0 0, .slice none 0 0, .int .i64 2, .int .i64 10, .int .i64 12, .int .i64 20, .int .i64 30, .int .i64 4, .int .i64 10, .int .i64 50, .int .i64 1, .int .i64 8]
theorem z15_one : ∀ u ∈ z15, u.oneCell' = true := by
  intro u hu
  simp only [z15, List.mem_cons, List.not_mem_nil, or_false] at hu
  rcases hu with rfl | rfl | rfl | rfl | rfl | rfl | rfl | rfl | rfl | rfl | rfl | rfl | rfl | rfl | rfl <;> rfl
theorem d15_one : ∀ u ∈ d15, u.oneCell' = true := by
  intro u hu
  simp only [d15, List.mem_cons, List.not_mem_nil, or_false] at hu
  rcases hu with rfl | rfl | rfl | rfl | rfl | rfl | rfl | rfl | rfl | rfl | rfl | rfl | rfl | rfl | rfl <;> rfl
def three (b : Nat) : CF := ⟨3, some ⟨b, 0, none⟩, 4, [0, 1, 2, 1], none, 0, [], none, 0, [], none, 0, [], 2, 10, 12, 10, 30, 4, 10, 50, 1, 8⟩
theorem three_one (b : Nat) : ∀ u ∈ (three b).cells, u.oneCell' = true := by
  intro u hu
  simp only [CF.cells, three, List.mem_cons, List.not_mem_nil, or_false] at hu
  rcases hu with rfl | rfl | rfl | rfl | rfl | rfl | rfl | rfl | rfl | rfl | rfl | rfl | rfl | rfl | rfl <;> rfl
set_option maxRecDepth 100000 in
theorem default_any (w : World) : Calls Try.prog 53 #[] w fun e w' => e = .returned (.agg d15.toArray) ∧ Same w w' := by
  have hz := Blk.made w 27 z15.toArray
  have HK := hid ((Keep.refl (fun _ => False) w).alloc (.cells z15.toArray 27))
  simp only [z15] at *
  go_enter Try.func53, Try.ntmps53
  go_upto_region 1 with fail
  generalize hw1 : (w.alloc (.cells #[.int .i64 0, .slice none 0 0, .slice none 0 0, .slice none 0 0, .slice none 0 0, .int .i64 0, .int .i64 0, .int .i64 0, .int .i64 0, .int .i64 0, .int .i64 0, .int .i64 0, .int .i64 0, .int .i64 0, .int .i64 0] 27)) = w1 at *
  have HZ := hid hz
  clear hz
  go_wp2_with (refine wpList_store_row rfl _ (.tmp 0) (.tmp 1) rfl w.heap.size d15.toArray rfl rfl _ _ HZ.out (by kernel_rfl) rfl (one_toArray d15_one) ?_)
  refine bodyPost_ret (results_cell_row rfl _ _ _ _ _ _ _ rfl (HZ.out.row _) Try.underlying27 rfl (by kernel_rfl)) rfl ⟨rfl, HK.out.trans (Keep.row _ _ _) (fun i hi e => by have e2 : i = w.heap.size := e; omega)⟩
def ThreePost (w : World) (e : Ending) (w' : World) : Prop := ∃ b, e = .returned (.agg (three b).cells.toArray) ∧ Sl w' (fun _ => False) 1 (some ⟨b, 0, none⟩) 4 (icellsC [0, 1, 2, 1]) ∧ Same w w'
set_option maxRecDepth 100000 in
set_option maxHeartbeats 4000000 in
theorem three_any (w : World) : Calls Try.prog 34 #[] w (ThreePost w) := by
  have hz := Blk.made w 27 z15.toArray
  have HK := hid ((Keep.refl (fun _ => False) w).alloc (.cells z15.toArray 27))
  have HDE := hid default_any
  simp only [z15] at hz HK
  go_enter Try.func34, Try.ntmps34
  go_upto_region 1 with fail
  generalize (w.alloc (.cells #[.int .i64 0, .slice none 0 0, .slice none 0 0, .slice none 0 0, .slice none 0 0, .int .i64 0, .int .i64 0, .int .i64 0, .int .i64 0, .int .i64 0, .int .i64 0, .int .i64 0, .int .i64 0, .int .i64 0, .int .i64 0] 27)) = w1 at *
  have HZ := hid hz
  clear hz
  go_wp2_with fail
  (with_reducible refine (HDE.out _).mono ?_)
  rintro e w2 ⟨rfl, hk2⟩
  have HZ2 := hid (HZ.out.keep hk2 (fun f => f))
  have HK2 := hid (HK.out.then hk2)
  clear hk2
  go_upto_region 2 with (refine wpList_store_row rfl _ (.tmp 1) (.tmp 2) rfl w2.heap.size d15.toArray rfl rfl _ _ (Blk.made w2 27 z15.toArray) (by kernel_rfl) rfl (one_toArray d15_one) ?_)
  have hB := (Blk.made w2 27 z15.toArray).row d15.toArray
  have hK : Same w2 ((w2.alloc (.cells z15.toArray 27)).setRow w2.heap.size d15.toArray) := ((Keep.refl _ w2).alloc _).trans (Keep.row _ _ _) (fun i hi e => by have e2 : i = w2.heap.size := e; omega)
  simp only [z15] at hB hK ⊢
  generalize ((w2.alloc (.cells #[.int .i64 0, .slice none 0 0, .slice none 0 0, .slice none 0 0, .slice none 0 0, .int .i64 0, .int .i64 0, .int .i64 0, .int .i64 0, .int .i64 0, .int .i64 0, .int .i64 0, .int .i64 0, .int .i64 0, .int .i64 0] 27)).setRow w2.heap.size d15.toArray) = w3 at *
  have HB := hid hB
  have HZ3 := hid (HZ2.out.keep hK (fun f => f))
  have HK3 := hid (HK2.out.then hK)
  have b0 : w3.cell? ⟨w2.heap.size, 0, none⟩ = some (.int .i64 0) := hB.at_ 0
  have b1 : w3.cell? ⟨w2.heap.size, 1, none⟩ = some (.slice none 0 0) := hB.at_ 1
  have b8 : w3.cell? ⟨w2.heap.size, 8, none⟩ = some (.int .i64 20) := hB.at_ 8
  have f0 := hB.free 0
  have f1 := hB.free 1
  have f8 := hB.free 8
  have hl := hB.lt
  clear hB hK
  go_upto_region 3 with fail
  have hB4 : Blk ((((w3.setCell ⟨w2.heap.size, 0, none⟩ (.int .i64 3)).setCell ⟨w2.heap.size, 1, none⟩ (.slice (some ⟨w3.heap.size, 0, none⟩) 4 4)).setCell ⟨w2.heap.size, 8, none⟩ (.int .i64 10)).alloc (.cells #[.int .i64 0, .int .i64 1, .int .i64 2, .int .i64 1] 3)) w2.heap.size 27 (three w3.heap.size).cells.toArray := ((((HB.out.put 0 (.int .i64 3)).put 1 (.slice (some ⟨w3.heap.size, 0, none⟩) 4 4)).put 8 (.int .i64 10)).alloc _)
  have hK4 : Keep (· = w2.heap.size) w3 ((((w3.setCell ⟨w2.heap.size, 0, none⟩ (.int .i64 3)).setCell ⟨w2.heap.size, 1, none⟩ (.slice (some ⟨w3.heap.size, 0, none⟩) 4 4)).setCell ⟨w2.heap.size, 8, none⟩ (.int .i64 10)).alloc (.cells #[.int .i64 0, .int .i64 1, .int .i64 2, .int .i64 1] 3)) := ((((Keep.refl _ w3).put 0 _).put 1 _).put 8 _).alloc _
  have hD4 : Blk ((((w3.setCell ⟨w2.heap.size, 0, none⟩ (.int .i64 3)).setCell ⟨w2.heap.size, 1, none⟩ (.slice (some ⟨w3.heap.size, 0, none⟩) 4 4)).setCell ⟨w2.heap.size, 8, none⟩ (.int .i64 10)).alloc (.cells #[.int .i64 0, .int .i64 1, .int .i64 2, .int .i64 1] 3)) w3.heap.size 3 #[.int .i64 0, .int .i64 1, .int .i64 2, .int .i64 1] := by
    have := Blk.made ((((w3.setCell ⟨w2.heap.size, 0, none⟩ (.int .i64 3)).setCell ⟨w2.heap.size, 1, none⟩ (.slice (some ⟨w3.heap.size, 0, none⟩) 4 4)).setCell ⟨w2.heap.size, 8, none⟩ (.int .i64 10))) 3 #[.int .i64 0, .int .i64 1, .int .i64 2, .int .i64 1]
    simpa [World.setCell] using this
  have HKS := hid (show w.heap.size < w2.heap.size from HZ2.out.lt)
  have HLW := hid (show w2.heap.size < w3.heap.size from hl)
  clear b0 b1 b8 f0 f1 f8 hl
  generalize ((((w3.setCell ⟨w2.heap.size, 0, none⟩ (.int .i64 3)).setCell ⟨w2.heap.size, 1, none⟩ (.slice (some ⟨w3.heap.size, 0, none⟩) 4 4)).setCell ⟨w2.heap.size, 8, none⟩ (.int .i64 10)).alloc (.cells #[.int .i64 0, .int .i64 1, .int .i64 2, .int .i64 1] 3)) = w4 at *
  have HB4 := hid hB4
  have HD4 := hid hD4
  have HZ4 := hid (HZ3.out.keep hK4 (by have h1 := HKS.out; omega))
  have HK4 := hid (HK3.out.trans hK4 (fun i hi e => by have e2 : i = w2.heap.size := e; have h1 := HKS.out; omega))
  clear hB4 hK4 hD4
  go_wp2_with (first
    | (refine wpList_load_row rfl _ (.tmp 1) rfl w2.heap.size rfl _ (three w3.heap.size).cells.toArray (0, 0) _ HB4.out Try.underlying27 rfl (by kernel_rfl) ?_)
    | (refine wpList_store_row rfl _ (.tmp 0) (.tmp 7) rfl w.heap.size (three w3.heap.size).cells.toArray rfl rfl _ _ HZ4.out (by kernel_rfl) rfl (one_toArray (three_one _)) ?_))
  refine bodyPost_ret (results_cell_row rfl _ _ _ _ _ _ _ rfl (HZ4.out.row _) Try.underlying27 rfl (by kernel_rfl)) rfl ?_
  refine ⟨w3.heap.size, rfl, ?_, HK4.out.trans (Keep.row _ _ _) (fun i hi e => by have e2 : i = w.heap.size := e; omega)⟩
  have h3 := HD4.out.keep (Keep.row w4 w.heap.size (three w3.heap.size).cells.toArray) (by have h1 := HKS.out; have h2 := HLW.out; omega)
  exact Sl.of_blk (n := 4) (size := 1) h3 rfl (fun f => f)

theorem wpListW_load_mid {P : Program} {ops : Array Oper} {rest : List Oper} {op : Oper} {a : Act} {w : World} {Q : Exit → Act → World → Prop} (hw : Region.wanted op (yielded ops a.tmps) = true) (ty : TypeId) (x : Operand) (ho : op.op = .load ty x)
    (b o : Nat) (hx : a.eval x = .pointer (some ⟨b, o, none⟩)) (cs : List Value) (d : TypeDesc) (hc : w.rangeAt b o cs)
    (hu : P.underlying ty = some d) (hd : d.isRow = true) (hi : (P.info? ty).map (·.size) = some cs.length)
    (h : wpList P ops Q rest (a.put op.dst (.agg cs.toArray)) w) : wpList P ops Q (op :: rest) a w :=
  wpList_step fun K hK => by
    rw [if_pos hw]
    exact wp_load_mid ty x ho b o hx cs d hc hu hd hi (hK _ _ h)
theorem three_vn (b : Nat) : vnum (three b) = 0 := by kernel_rfl
def lA : List St := initL 3 10
def lB : List St := [⟨0, 1, 10, false⟩, ⟨2, 2, 21, false⟩, ⟨2, 1, 10, false⟩]
theorem aw1 : props 3 10 2 11 2 [1] lA = [(8, 1, 1), (8, 2, 1)] := by kernel_rfl
theorem aw2 : doD 3 10 lA 8 1 2 1 11 = (lB, 0) := by kernel_rfl
theorem aw3 : props 3 10 2 12 2 [] lB = [(10, 1, 2), (8, 2, 1)] := by kernel_rfl
theorem aw4 : pick (actB 2 21) lB lB.length = [1] := by kernel_rfl
set_option maxRecDepth 100000 in
set_option maxHeartbeats 4000000 in
theorem awake_any (w : World) : Calls Try.prog 11 #[] w fun e w' => e = .returned (.bool true) ∧ Same w w' := by
  have HTH := hid (three_any w)
  unfold ThreePost at HTH
  go_enter Try.func11, Try.ntmps11
  go_wp2_with fail
  (with_reducible refine HTH.out.mono ?_)
  rintro e w1 ⟨b, rfl, hs1, hk1⟩
  have HK1 := hid hk1
  have hcm : CM w1 (three b) := ⟨hs1, Sl.nil _ _ _ _, Sl.nil _ _ _ _, Sl.nil _ _ _ _, fun p hp => by simp [three] at hp, by simp [three, maxLen], by simp [three], by simp [three], by simp [three], by simp [three]⟩
  have hn := dnew_any w1 (three b) hcm
  unfold DNewPost at hn
  rw [three_vn] at hn
  have HN := hid hn
  clear hn hcm hs1 hk1
  go_wp2_with fail
  (with_reducible refine HN.out.mono ?_)
  rintro e w2 (⟨_, mb, tb, sb, A, cp, rfl, l1, l2, l3, hd2, hk2, _⟩ | ⟨h, _⟩)
  rotate_left 1
  · exact absurd rfl h
  · have HD2 : Hid (DM w2 mb tb sb A cp (three b) lA) := hid hd2
    have HK2 := hid (HK1.out.then hk2)
    have HS := hid (show w.heap.size ≤ sb from Nat.le_trans HK1.out.size l3)
    have hlt : sb < w2.heap.size := hd2.tab.row.lt
    clear l1 l2 l3 hd2 hk2
    go_upto_region 4 with fail
    have hp : ∀ W, Same w2 W → Blk W w2.heap.size 3 #[.int .i64 1] → Calls Try.prog 13 #[.pointer (some ⟨mb, 0, none⟩), .int .i64 2, .slice (some ⟨w2.heap.size, 0, none⟩) 1 1, .int .i64 11, .int .i64 2] W
        (PrsPost W mb tb sb A cp (three b) lA 2 [(8, 1, 1), (8, 2, 1)]) := fun W hk hb => by
      have := proposals_any W mb tb sb A cp (three b) lA (HD2.out.same hk) 2 11 2 (by omega) (some ⟨w2.heap.size, 0, none⟩) 1 [1] (Sl.of_blk (n := 1) (size := 1) hb rfl (by omega)) (by simp)
      rw [show props (three b).cen (three b).h3 2 11 2 [1] lA = [(8, 1, 1), (8, 2, 1)] from aw1] at this
      exact this
    have HP := hid (hp _ ((Keep.refl _ w2).alloc _) (Blk.made w2 3 #[.int .i64 1]))
    unfold PrsPost at HP
    simp only [List.length_cons, List.length_nil, Nat.zero_add, Nat.reduceAdd] at HP
    clear hp
    go_wp2_with fail
    (with_reducible refine HP.out.mono ?_)
    rintro e w3 ⟨B, d, rfl, hs3, hd3, hk3⟩
    as_aux_lemma =>
      have HD3 := hid hd3
      have HK3 := hid ((((HK2.out.alloc _).wide (fun _ _ f => f.elim)).trans hk3 (fun _ _ e => e) : Keep (fun i => i = sb) w w3))
      obtain ⟨g, off, rfl, hg, _, hrow⟩ := hs3.at_ (by decide)
      have e0 : w3.cell? ⟨g, off, none⟩ = some (.int .i64 8) := hrow 0 _ rfl
      have e7 : w3.cell? ⟨g, off + 7, none⟩ = some (.int .i64 1) := hrow 7 _ rfl
      have e26 : w3.cell? ⟨g, off + 26, none⟩ = some (.int .i64 2) := hrow 26 _ rfl
      have e27 : w3.cell? ⟨g, off + 19 + 7, none⟩ = some (.int .i64 2) := hrow 26 _ rfl
      have HR := hid (show w3.rangeAt g off (cmdV 8 1 2 1) from fun j u hu => hrow j u (by
        have hj := (List.getElem?_eq_some_iff.1 hu).1
        rw [show cmds 2 [(8, 1, 1), (8, 2, 1)] = cmdV 8 1 2 1 ++ cmdV 8 2 2 1 from rfl, List.getElem?_append_left hj]
        exact hu))
      clear hrow hs3 hd3 hk3
      have hap := apply_any w3 mb tb sb A cp (three b) lA HD3.out 8 1 2 1 11
      rw [show doD (three b).cen (three b).h3 lA 8 1 2 1 11 = (lB, 0) from aw2] at hap
      unfold ApPost at hap
      have HAP := hid hap
      have hp2 := fun W h => proposals_any W mb tb sb A cp (three b) lB h 2 12 2 (by omega) none 0 [] (Sl.nil _ _ _ _) (by simp)
      rw [show props (three b).cen (three b).h3 2 12 2 [] lB = [(10, 1, 2), (8, 2, 1)] from aw3] at hp2
      have HP2 := hid hp2
      unfold PrsPost at HP2
      simp only [List.length_cons, List.length_nil, Nat.zero_add, Nat.reduceAdd] at HP2
      have hac := fun W h => active_any W mb tb sb A cp (three b) lB h 2 21
      rw [aw4] at hac
      have HAC := hid hac
      unfold LsPost at HAC
      simp only [List.length_cons, List.length_nil, Nat.zero_add] at HAC
      clear hap hp2 hac
      as_aux_lemma =>
        go_wp2_with (refine wpListW_load_mid rfl _ (.tmp 46) rfl g off rfl (cmdV 8 1 2 1) _ HR.out Try.underlying52 rfl (by kernel_rfl) ?_)
        (with_reducible refine HAP.out.mono ?_)
        rintro e w4 ⟨rfl, hd4, hk4⟩
        have HD4 := hid hd4
        have HK4 := hid (HK3.out.trans hk4 (fun _ _ e => e))
        clear hd4 hk4 e0 e7 e26 e27
        as_aux_lemma =>
          go_wp2_with fail
          (with_reducible refine (HP2.out _ HD4.out).mono ?_)
          rintro e w5 ⟨B5, d5, rfl, hs5, hd5, hk5⟩
          have HD5 := hid hd5
          have HK5 := hid (HK4.out.trans hk5 (fun _ _ e => e))
          obtain ⟨g5, off5, rfl, hg5, _, hrow⟩ := hs5.at_ (by decide)
          have q0 : w5.cell? ⟨g5, off5, none⟩ = some (.int .i64 10) := hrow 0 _ rfl
          have q7 : w5.cell? ⟨g5, off5 + 7, none⟩ = some (.int .i64 1) := hrow 7 _ rfl
          have q19 : w5.cell? ⟨g5, off5 + 19, none⟩ = some (.int .i64 8) := hrow 19 _ rfl
          have q26 : w5.cell? ⟨g5, off5 + 26, none⟩ = some (.int .i64 2) := hrow 26 _ rfl
          have q27 : w5.cell? ⟨g5, off5 + 19 + 7, none⟩ = some (.int .i64 2) := hrow 26 _ rfl
          clear hrow hs5 hd5 hk5
          as_aux_lemma =>
            go_wp2_with fail
            (with_reducible refine (HAC.out _ HD5.out).mono ?_)
            rintro e w6 ⟨B6, d6, rfl, _, hk6⟩
            have HK6 := hid (HK5.out.then hk6)
            clear hk6
            go_wp2_with fail
            go_ret
            exact ⟨rfl, HK6.out.wide (fun i hi e => by have e2 : i = sb := e; have h1 := HS.out; omega)⟩
end Go.Proofs.Ytmkcphhgimlkgaa

import Derived.Test.YtafpcffhkbeloaaDoorLoI1
namespace Go.Proofs.YtafpcffhkbeloaaDoor
open Go.RowKit

theorem one_rest5 {F G : Value → Value → Nat → World → Prop} {goal : Prop} (main : (∀ u v g W, F u v g W → G u v g W) → goal) (rest : ∀ u v g W, F u v g W → G u v g W) : goal := main rest
theorem one_rest7 {F G : Option Addr → Nat → Nat → Option Addr → Nat → World → Prop} {goal : Prop} (main : (∀ a b c d e W, F a b c d e W → G a b c d e W) → goal) (rest : ∀ a b c d e W, F a b c d e W → G a b c d e W) : goal := main rest
def addS (nodes : List Nat) (n : Nat) (kd : Int) (ns : List Int) : List Nat × Option Bool × Bool × Int :=
  if rightB kd ns.length = false then (nodes, none, false, 1)
  else if 64 ≤ n then (nodes, none, false, 3)
  else if andW nodes (ofW ns) = zeroW then (nodes, some false, false, 0)
  else if andW nodes (ofW ns) = nodes then (nodes, some true, false, 0)
  else (andW nodes (ofW ns), some true, true, 0)
def vws (l : List Ad) : List ((Int × List Int) × Bool) := l.map (fun a => (a.s.key, a.ok))
def AddPost (w : World) (eb : Nat) (r : Option Nat) (base : Nat) (all nodes : List Nat) (l : List Ad) (k : Int × List Int) (e : Ending) (w' : World) : Prop :=
  ∃ r' va' vn' R' l', e = .returned (.tuple #[.bool (addS nodes l.length k.1 k.2).2.2.1, .int .i64 (addS nodes l.length k.1 k.2).2.2.2]) ∧ IsEst w' eb r' base va' vn' R' all (addS nodes l.length k.1 k.2).1 l' ∧
    vws l' = vws l ++ (match (addS nodes l.length k.1 k.2).2.1 with | some b => [(k, b)] | none => []) ∧ Keep (fun i => i = eb ∨ some i = r) w w' ∧ (∀ g, r' = some g → r = some g ∨ w.heap.size ≤ g)
set_option maxRecDepth 100000 in
set_option maxHeartbeats 16000000 in
theorem add_est (w : World) (eb : Nat) (r : Option Nat) (base : Nat) (va vn R : Value) (all nodes : List Nat) (l : List Ad) (h : IsEst w eb r base va vn R all nodes l) (s : Sr) (Av : Nat → Prop) (hs : SrOk w Av s) (hn : s.ns.length ≤ 1000000) :
    Calls Tryd.prog 14 #[.pointer (some ⟨eb, 0, none⟩), .agg s.cells.toArray] w (AddPost w eb r base all nodes l s.key) := by
  obtain ⟨A, c, rfl⟩ := h.row.shape
  have hk : Same w (w.alloc (.cells s.cells.toArray 40)) := (Keep.refl _ _).alloc _
  have hb := Blk.made w 40 s.cells.toArray
  generalize hw1 : (w.alloc (.cells s.cells.toArray 40)) = w1 at *
  have HK := hid hk
  have HE := hid (fun W (hk2 : Same w1 W) => (h.same hk).same hk2)
  have HSB := hid (fun W (hk2 : Same w1 W) => hb.keep (S := fun _ => False) hk2 (fun f => f))
  have HSO := hid (fun W (hk2 : Same w1 W) => (Sl.same (Sl.same hs hk) hk2 : SrOk W Av s))
  have HSA := hid (fun W (hk2 : Same w1 W) => (show (W.cell? ⟨eb, 0, none⟩).isSome = true ∧ W.cell? ⟨eb, 1, none⟩ = some vn ∧ W.cell? ⟨w.heap.size, 1, none⟩ = some (.slice s.A s.ns.length s.c) from
    ⟨by rw [(HE.out W hk2).top.at_ 0]; rfl, (HE.out W hk2).top.at_ 1, (HSB.out W hk2).at_ 1⟩))
  have HOF := hid (fun W (hk2 : Same w1 W) => of_any W Av s.A s.ns s.c (HSO.out W hk2) hn)
  have HND := hid (fun W (hk2 : Same w1 W) => (HE.out W hk2).nodes_)
  unfold SetPost at HOF
  have b0 : w1.cell? ⟨w.heap.size, 0, none⟩ = some (.int .i64 s.kd) := hb.at_ 0
  have b1 : w1.cell? ⟨w.heap.size, 1, none⟩ = some (.slice s.A s.ns.length s.c) := hb.at_ 1
  have e0 : (w1.cell? ⟨eb, 0, none⟩).isSome = true := (HSA.out w1 (Keep.refl _ _)).1
  have e2 : w1.cell? ⟨eb, 2, none⟩ = some (.slice A l.length c) := (HE.out w1 (Keep.refl _ _)).top.at_ 2
  have hbad : ∀ er : Int, addS nodes l.length s.key.1 s.key.2 = (nodes, none, false, er) → AddPost w eb r base all nodes l s.key (.returned (.tuple #[.bool false, .int .i64 er])) w1 := by
    intro er he
    rw [AddPost, he]
    exact ⟨r, va, vn, .slice A l.length c, l, rfl, HE.out w1 (Keep.refl _ _), by simp, HK.out.wide (fun _ _ f => f.elim), fun g e => .inl e⟩
  have HBAD := hid hbad
  have h64 := h.few
  clear hk hb h hs hbad
  by_cases hr : rightB s.kd s.ns.length = false
  · have HR := hid (show addS nodes l.length s.key.1 s.key.2 = (nodes, none, false, 1) from by rw [addS, if_pos (show rightB s.key.1 s.key.2.length = false from hr)])
    have h3 : s.kd < 1 ∨ (1 ≤ s.kd ∧ 9 < s.kd) ∨ (1 ≤ s.kd ∧ s.kd ≤ 9 ∧ 4096 < (s.ns.length : Int)) := by
      simp [rightB] at hr; omega
    clear hr
    rcases h3 with h1 | ⟨h1, h2⟩ | ⟨h1, h2, h3⟩
    all_goals
      go_enter Tryd.func14, Tryd.ntmps14
      go_upto_region 1 with fail
      try rw [hw1]
      clear hw1
      go_wp2_with fail
      go_ret2
      exact HBAD.out 1 HR.out
  · have hr2 : (1 ≤ s.kd ∧ s.kd ≤ 9) ∧ (s.ns.length : Int) ≤ 4096 := by simp [rightB] at hr; omega
    obtain ⟨⟨k1, k2⟩, k3⟩ := hr2
    have HR := hid hr
    clear hr
    by_cases hfull : 64 ≤ (l.length : Int)
    · have HR3 := hid (show addS nodes l.length s.key.1 s.key.2 = (nodes, none, false, 3) from by rw [addS, if_neg (show ¬ rightB s.key.1 s.key.2.length = false from HR.out), if_pos (by omega)])
      go_enter Tryd.func14, Tryd.ntmps14
      go_upto_region 1 with fail
      try rw [hw1]
      clear hw1
      go_wp2_with fail
      go_ret2
      exact HBAD.out 3 HR3.out
    · have hfl : (l.length : Int) < 64 := by omega
      clear hfull
      go_enter Tryd.func14, Tryd.ntmps14
      go_upto_region 1 with fail
      try rw [hw1]
      clear hw1
      go_upto_region 5 with fail
      refine wp_region_held_drew (S := fun W => (W.cell? ⟨eb, 0, none⟩).isSome = true ∧ W.cell? ⟨eb, 1, none⟩ = some vn ∧ W.cell? ⟨w.heap.size, 1, none⟩ = some (.slice s.A s.ns.length s.c)) (by kernel_rfl) (HSA.out _ (Keep.refl _ _).drew) (fun hHeld => ?_)
      refine takeO (i := 0) (v := ?_) (by kernel_rfl) (by kernel_rfl) (by kernel_rfl) (fun c a d v w h => by cases d <;> exact h) (oi := ?_) ?_ ?_ (by assumption) ?_
      rotate_left 2
      · (simp only [List.getElem?_toArray, List.getElem?_cons_zero]; rfl)
      · (refine Or.inl ⟨by rfl, ?_⟩; intro w hSw; (try dsimp only at hSw); go_simp; try with_reducible rfl)
      try simp only [Act.put, List.setIfInBounds_toArray, List.set_cons_zero, List.set_cons_succ]
      refine takeO (i := 1) (v := ?_) (by kernel_rfl) (by kernel_rfl) (by kernel_rfl) (fun c a d v w h => by cases d <;> exact h) (oi := ?_) ?_ ?_ (by assumption) ?_
      rotate_left 2
      · (simp only [List.getElem?_toArray, List.getElem?_cons_succ, List.getElem?_cons_zero]; rfl)
      · (refine Or.inl ⟨by rfl, ?_⟩; intro w hSw; (try dsimp only at hSw); go_simp; try with_reducible rfl)
      try simp only [Act.put, List.setIfInBounds_toArray, List.set_cons_zero, List.set_cons_succ]
      refine takeO (i := 2) (v := ?_) (by kernel_rfl) (by kernel_rfl) (by kernel_rfl) (fun c a d v w h => by cases d <;> exact h) (oi := ?_) ?_ ?_ (by assumption) ?_
      rotate_left 2
      · (simp only [List.getElem?_toArray, List.getElem?_cons_succ, List.getElem?_cons_zero]; rfl)
      · (refine Or.inl ⟨by rfl, ?_⟩; intro w hSw; (try dsimp only at hSw); go_simp; try with_reducible rfl)
      try simp only [Act.put, List.setIfInBounds_toArray, List.set_cons_zero, List.set_cons_succ]
      refine takeO (i := 3) (v := ?_) (by kernel_rfl) (by kernel_rfl) (by kernel_rfl) (fun c a d v w h => by cases d <;> exact h) (oi := ?_) ?_ ?_ (by assumption) ?_
      rotate_left 2
      · (simp only [List.getElem?_toArray, List.getElem?_cons_succ, List.getElem?_cons_zero]; rfl)
      · (refine Or.inl ⟨by rfl, ?_⟩; intro w hSw; (try dsimp only at hSw); go_simp; try with_reducible rfl)
      try simp only [Act.put, List.setIfInBounds_toArray, List.set_cons_zero, List.set_cons_succ]
      refine takeO (i := 4) (v := ?_) (by kernel_rfl) (by kernel_rfl) (by kernel_rfl) (fun c a d v w h => by cases d <;> exact h) (oi := ?_) ?_ ?_ (by assumption) ?_
      rotate_left 2
      · (simp only [List.getElem?_toArray, List.getElem?_cons_succ, List.getElem?_cons_zero]; rfl)
      · (refine Or.inl ⟨by rfl, ?_⟩; intro w hSw; (try dsimp only at hSw); go_simp; try with_reducible rfl)
      try simp only [Act.put, List.setIfInBounds_toArray, List.set_cons_zero, List.set_cons_succ]
      refine takeO (i := 5) (v := ?_) (by kernel_rfl) (by kernel_rfl) (by kernel_rfl) (fun c a d v w h => by cases d <;> exact h) (oi := ?_) ?_ ?_ (by assumption) ?_
      rotate_left 2
      · (simp only [List.getElem?_toArray, List.getElem?_cons_succ, List.getElem?_cons_zero]; rfl)
      · (refine Or.inl ⟨by rfl, ?_⟩; intro w hSw; (try dsimp only at hSw); go_simp; try with_reducible rfl)
      try simp only [Act.put, List.setIfInBounds_toArray, List.set_cons_zero, List.set_cons_succ]
      clear hHeld
      apply one_rest5 (F := fun (v1 v2 : Value) (g : Nat) (W : World) => Same w1 W ∧ Blk W g 32 #[v2] ∧ IsSet W v2 (andW nodes (ofW s.ns)) ∧ w1.heap.size ≤ g)
      case main =>
        intro REST
        have hkd : Same w1 w1.drew := (Keep.refl _ _).drew
        generalize w1.drew = wd at *
        refine wpAnyH_ready (rs := [6, 8]) (by kernel_rfl) (by simp) ?_
        refine AllReadyH.cons rfl (fun K hK => ?_) (AllReadyH.cons rfl (fun K hK => ?_) AllReadyH.nil)
        · go_simp
          refine (HOF.out _ hkd).mono ?_
          rintro e wo1 ⟨v1, rfl, hs1, hk1⟩
          have hK1 : Same w1 wo1 := (hkd).then hk1
          refine hK.out _ _ (HSA.out _ hK1) (fun hHeld1 => ?_)
          clear hK K
          try simp only [Act.put, List.setIfInBounds_toArray, List.set_cons_zero, List.set_cons_succ]
          refine wpAnyH_ready (rs := [7, 8]) (by kernel_rfl) (by simp) ?_
          refine AllReadyH.cons rfl (fun K hK => ?_) (AllReadyH.cons rfl (fun K hK => ?_) AllReadyH.nil)
          · go_simp
            refine (inter_any _ _ _ _ _ (HND.out _ hK1) hs1).mono ?_
            rintro e wo2 ⟨v2, rfl, hs2, hk2⟩
            have hK2 : Same w1 wo2 := (hK1).then hk2
            refine hK.out _ _ (HSA.out _ hK2) (fun hHeld2 => ?_)
            clear hK K
            try simp only [Act.put, List.setIfInBounds_toArray, List.set_cons_zero, List.set_cons_succ]
            refine wpAnyH_ready (rs := [8]) (by kernel_rfl) (by simp) ?_
            refine AllReadyH.cons rfl (fun K hK => ?_) AllReadyH.nil
            go_simp
            have hb3 := Blk.made (wo2) 32 #[.pointer none]
            have hk3 : Same (wo2) ((wo2).alloc (.cells #[.pointer none] 32)) := (Keep.refl _ _).alloc _
            obtain ⟨g3, hg3⟩ : ∃ g, g = (wo2).heap.size := ⟨_, rfl⟩
            rw [← hg3] at hb3 ⊢
            have hlo3 : w1.heap.size ≤ g3 := by rw [hg3]; exact (hK2).size
            clear hg3
            generalize ((wo2).alloc (.cells #[.pointer none] 32)) = wo3 at *
            have hK3 : Same w1 wo3 := (hK2).then hk3
            have h2_3 := IsSet.same hs2 hk3
            refine hK.out _ _ (HSA.out _ hK3) (fun hHeld3 => ?_)
            clear hK K
            try simp only [Act.put, List.setIfInBounds_toArray, List.set_cons_zero, List.set_cons_succ]
            refine wpAnyH_ready (rs := [9]) (by kernel_rfl) (by simp) ?_
            refine AllReadyH.cons rfl (fun K hK => ?_) AllReadyH.nil
            refine store_step rfl _ (.tmp 6) (.tmp 35) rfl (g3) (#[v2]) rfl rfl 32 _ (hb3) (by kernel_rfl) rfl (IsSet.one h2_3) ?_
            have hb4 := Blk.row (hb3) #[v2]
            have hk4 := Keep.row (wo3) (g3) #[v2]
            have hs4 := IsSet.far h2_3 (hb3) hk4
            generalize ((wo3).setRow (g3) #[v2]) = wo4 at *
            have hK4 : Same w1 wo4 := (hK3).trans hk4 (fun i hi e => by have e2 : i = g3 := e; omega)
            refine hK.out _ _ (HSA.out _ hK4) (fun hHeld4 => ?_)
            clear hK K
            try simp only [Act.put, List.setIfInBounds_toArray]
            refine wpAnyH_done (by kernel_rfl) ?_ _
            exact REST v1 v2 g3 wo4 ⟨hK4, hb4, hs4, hlo3⟩
          · go_simp
            have hb5 := Blk.made (wo1) 32 #[.pointer none]
            have hk5 : Same (wo1) ((wo1).alloc (.cells #[.pointer none] 32)) := (Keep.refl _ _).alloc _
            obtain ⟨g5, hg5⟩ : ∃ g, g = (wo1).heap.size := ⟨_, rfl⟩
            rw [← hg5] at hb5 ⊢
            have hlo5 : w1.heap.size ≤ g5 := by rw [hg5]; exact (hK1).size
            clear hg5
            generalize ((wo1).alloc (.cells #[.pointer none] 32)) = wo5 at *
            have hK5 : Same w1 wo5 := (hK1).then hk5
            have h1_5 := IsSet.same hs1 hk5
            refine hK.out _ _ (HSA.out _ hK5) (fun hHeld5 => ?_)
            clear hK K
            try simp only [Act.put, List.setIfInBounds_toArray, List.set_cons_zero, List.set_cons_succ]
            refine wpAnyH_ready (rs := [7]) (by kernel_rfl) (by simp) ?_
            refine AllReadyH.cons rfl (fun K hK => ?_) AllReadyH.nil
            go_simp
            refine (inter_any _ _ _ _ _ (HND.out _ hK5) h1_5).mono ?_
            rintro e wo6 ⟨v6, rfl, hs6, hk6⟩
            have hK6 : Same w1 wo6 := (hK5).then hk6
            have hB6 := Blk.keep (hb5) hk6 (fun f => f)
            refine hK.out _ _ (HSA.out _ hK6) (fun hHeld6 => ?_)
            clear hK K
            try simp only [Act.put, List.setIfInBounds_toArray, List.set_cons_zero, List.set_cons_succ]
            refine wpAnyH_ready (rs := [9]) (by kernel_rfl) (by simp) ?_
            refine AllReadyH.cons rfl (fun K hK => ?_) AllReadyH.nil
            refine store_step rfl _ (.tmp 6) (.tmp 35) rfl (g5) (#[v6]) rfl rfl 32 _ (hB6) (by kernel_rfl) rfl (IsSet.one hs6) ?_
            have hb7 := Blk.row (hB6) #[v6]
            have hk7 := Keep.row (wo6) (g5) #[v6]
            have hs7 := IsSet.far hs6 (hB6) hk7
            generalize ((wo6).setRow (g5) #[v6]) = wo7 at *
            have hK7 : Same w1 wo7 := (hK6).trans hk7 (fun i hi e => by have e2 : i = g5 := e; omega)
            refine hK.out _ _ (HSA.out _ hK7) (fun hHeld7 => ?_)
            clear hK K
            try simp only [Act.put, List.setIfInBounds_toArray]
            refine wpAnyH_done (by kernel_rfl) ?_ _
            exact REST v1 v6 g5 wo7 ⟨hK7, hb7, hs7, hlo5⟩
        · go_simp
          have hb8 := Blk.made (wd) 32 #[.pointer none]
          have hk8 : Same (wd) ((wd).alloc (.cells #[.pointer none] 32)) := (Keep.refl _ _).alloc _
          obtain ⟨g8, hg8⟩ : ∃ g, g = (wd).heap.size := ⟨_, rfl⟩
          rw [← hg8] at hb8 ⊢
          have hlo8 : w1.heap.size ≤ g8 := by rw [hg8]; exact (hkd).size
          clear hg8
          generalize ((wd).alloc (.cells #[.pointer none] 32)) = wo8 at *
          have hK8 : Same w1 wo8 := (hkd).then hk8
          refine hK.out _ _ (HSA.out _ hK8) (fun hHeld8 => ?_)
          clear hK K
          try simp only [Act.put, List.setIfInBounds_toArray, List.set_cons_zero, List.set_cons_succ]
          refine wpAnyH_ready (rs := [6]) (by kernel_rfl) (by simp) ?_
          refine AllReadyH.cons rfl (fun K hK => ?_) AllReadyH.nil
          go_simp
          refine (HOF.out _ hK8).mono ?_
          rintro e wo9 ⟨v9, rfl, hs9, hk9⟩
          have hK9 : Same w1 wo9 := (hK8).then hk9
          have hB9 := Blk.keep (hb8) hk9 (fun f => f)
          refine hK.out _ _ (HSA.out _ hK9) (fun hHeld9 => ?_)
          clear hK K
          try simp only [Act.put, List.setIfInBounds_toArray, List.set_cons_zero, List.set_cons_succ]
          refine wpAnyH_ready (rs := [7]) (by kernel_rfl) (by simp) ?_
          refine AllReadyH.cons rfl (fun K hK => ?_) AllReadyH.nil
          go_simp
          refine (inter_any _ _ _ _ _ (HND.out _ hK9) hs9).mono ?_
          rintro e wo10 ⟨v10, rfl, hs10, hk10⟩
          have hK10 : Same w1 wo10 := (hK9).then hk10
          have hB10 := Blk.keep (hB9) hk10 (fun f => f)
          refine hK.out _ _ (HSA.out _ hK10) (fun hHeld10 => ?_)
          clear hK K
          try simp only [Act.put, List.setIfInBounds_toArray, List.set_cons_zero, List.set_cons_succ]
          refine wpAnyH_ready (rs := [9]) (by kernel_rfl) (by simp) ?_
          refine AllReadyH.cons rfl (fun K hK => ?_) AllReadyH.nil
          refine store_step rfl _ (.tmp 6) (.tmp 35) rfl (g8) (#[v10]) rfl rfl 32 _ (hB10) (by kernel_rfl) rfl (IsSet.one hs10) ?_
          have hb11 := Blk.row (hB10) #[v10]
          have hk11 := Keep.row (wo10) (g8) #[v10]
          have hs11 := IsSet.far hs10 (hB10) hk11
          generalize ((wo10).setRow (g8) #[v10]) = wo11 at *
          have hK11 : Same w1 wo11 := (hK10).trans hk11 (fun i hi e => by have e2 : i = g8 := e; omega)
          refine hK.out _ _ (HSA.out _ hK11) (fun hHeld11 => ?_)
          clear hK K
          try simp only [Act.put, List.setIfInBounds_toArray]
          refine wpAnyH_done (by kernel_rfl) ?_ _
          exact REST v9 v10 g8 wo11 ⟨hK11, hb11, hs11, hlo8⟩
      case rest =>
        intro v1 v2 g W5 hF
        obtain ⟨hk5, hb5, hs5, hg5⟩ := hF
        have g0 : W5.cell? ⟨g, 0, none⟩ = some v2 := hb5.at_ 0
        have HLE := hid (len_any W5 v2 _ hs5)
        have HK5 := hid hk5
        have HV5 := hid (And.intro hb5 hs5)
        have HG5 := hid hg5
        clear hk5 hb5 hs5 hg5 b0 b1 e0 e2
        generalize hL : (elemsW (andW nodes (ofW s.ns))).length = L at *
        have HL := hid hL
        clear hL
        go_upto_region 7 with ((with_reducible refine HLE.out.mono ?_); rintro e w6 ⟨rfl, hk6⟩; have HK6 := hid hk6; clear hk6 g0)
        have HK56 := hid (HK5.out.then HK6.out)
        have HE6 := hid (HE.out w6 HK56.out)
        have HV6 := hid (show Blk w6 g 32 #[v2] ∧ IsSet w6 v2 (andW nodes (ofW s.ns)) from ⟨HV5.out.1.keep HK6.out (fun f => f), HV5.out.2.same HK6.out⟩)
        have HNS := hid (show s.ns.length ≤ 4096 from by omega)
        have HN := hid (show l.length < 64 from by omega)
        have HS7 := hid (fun W (hk : Same w6 W) => (show (W.cell? ⟨eb, 0, none⟩).isSome = true ∧ W.cell? ⟨w.heap.size, 0, none⟩ = some (.int .i64 s.kd) ∧ W.cell? ⟨w.heap.size, 1, none⟩ = some (.slice s.A s.ns.length s.c) from ⟨by rw [(HE.out W (HK56.out.then hk)).top.at_ 0]; rfl, (HSB.out W (HK56.out.then hk)).at_ 0, (HSB.out W (HK56.out.then hk)).at_ 1⟩))
        have HCP := hid (fun W (hk : Same w6 W) => (show Calls Tryd.prog 38 #[.agg #[.int .i64 s.kd, .slice s.A s.ns.length s.c]] W (fun e w' => ∃ A' c', e = .returned (.agg #[.int .i64 s.kd, .slice A' s.ns.length c']) ∧ SrOk w' (· < W.heap.size) ⟨s.kd, A', c', s.ns⟩ ∧ Same W w') from copy_any W Av s (HSO.out W (HK56.out.then hk)) hn))
        have HBM := hid (show ∀ x cs, Blk w6 x 72 cs → ¬ (x = eb ∨ some x = r) from by
          intro x cs hb
          rintro (e | e)
          · exact blk_ne hb HE6.out.top (by decide) e
          · obtain ⟨cur, hc⟩ := own_row HE6.out.row (HE6.out.own.trans e.symm)
            exact blk_ne hb hc (by decide) rfl)
        clear h64 HLE
        refine wp_region_held_drew (S := fun W => (W.cell? ⟨eb, 0, none⟩).isSome = true ∧ W.cell? ⟨w.heap.size, 0, none⟩ = some (.int .i64 s.kd) ∧ W.cell? ⟨w.heap.size, 1, none⟩ = some (.slice s.A s.ns.length s.c)) (by kernel_rfl) (HS7.out _ (Keep.refl _ _).drew) (fun hHeld => ?_)
        refine takeO (i := 0) (v := ?_) (by kernel_rfl) (by kernel_rfl) (by kernel_rfl) (fun c a d v w h => by cases d <;> exact h) (oi := ?_) ?_ ?_ (by assumption) ?_
        rotate_left 2
        · (simp only [List.getElem?_toArray, List.getElem?_cons_zero]; rfl)
        · (refine Or.inl ⟨by rfl, ?_⟩; intro w hSw; (try dsimp only at hSw); go_simp; try with_reducible rfl)
        try simp only [Act.put, List.setIfInBounds_toArray, List.set_cons_zero, List.set_cons_succ]
        refine takeO (i := 1) (v := ?_) (by kernel_rfl) (by kernel_rfl) (by kernel_rfl) (fun c a d v w h => by cases d <;> exact h) (oi := ?_) ?_ ?_ (by assumption) ?_
        rotate_left 2
        · (simp only [List.getElem?_toArray, List.getElem?_cons_succ, List.getElem?_cons_zero]; rfl)
        · (refine Or.inl ⟨by rfl, ?_⟩; intro w hSw; (try dsimp only at hSw); go_simp; try with_reducible rfl)
        try simp only [Act.put, List.setIfInBounds_toArray, List.set_cons_zero, List.set_cons_succ]
        refine takeO (i := 2) (v := ?_) (by kernel_rfl) (by kernel_rfl) (by kernel_rfl) (fun c a d v w h => by cases d <;> exact h) (oi := ?_) ?_ ?_ (by assumption) ?_
        rotate_left 2
        · (simp only [List.getElem?_toArray, List.getElem?_cons_succ, List.getElem?_cons_zero]; rfl)
        · (refine Or.inl ⟨by rfl, ?_⟩; intro w hSw; (try dsimp only at hSw); go_simp; try with_reducible rfl)
        try simp only [Act.put, List.setIfInBounds_toArray, List.set_cons_zero, List.set_cons_succ]
        refine takeO (i := 3) (v := ?_) (by kernel_rfl) (by kernel_rfl) (by kernel_rfl) (fun c a d v w h => by cases d <;> exact h) (oi := ?_) ?_ ?_ (by assumption) ?_
        rotate_left 2
        · (simp only [List.getElem?_toArray, List.getElem?_cons_succ, List.getElem?_cons_zero]; rfl)
        · (refine Or.inl ⟨by rfl, ?_⟩; intro w hSw; (try dsimp only at hSw); go_simp; try with_reducible rfl)
        try simp only [Act.put, List.setIfInBounds_toArray, List.set_cons_zero, List.set_cons_succ]
        refine takeO (i := 5) (v := ?_) (by kernel_rfl) (by kernel_rfl) (by kernel_rfl) (fun c a d v w h => by cases d <;> exact h) (oi := ?_) ?_ ?_ (by assumption) ?_
        rotate_left 2
        · (simp only [List.getElem?_toArray, List.getElem?_cons_succ, List.getElem?_cons_zero]; rfl)
        · (refine Or.inl ⟨by rfl, ?_⟩; intro w hSw; (try dsimp only at hSw); go_simp; try with_reducible rfl)
        try simp only [Act.put, List.setIfInBounds_toArray, List.set_cons_zero, List.set_cons_succ]
        refine takeO (i := 7) (v := ?_) (by kernel_rfl) (by kernel_rfl) (by kernel_rfl) (fun c a d v w h => by cases d <;> exact h) (oi := ?_) ?_ ?_ (by assumption) ?_
        rotate_left 2
        · (simp only [List.getElem?_toArray, List.getElem?_cons_succ, List.getElem?_cons_zero]; rfl)
        · (refine Or.inl ⟨by rfl, ?_⟩; intro w hSw; (try dsimp only at hSw); go_simp; try with_reducible rfl)
        try simp only [Act.put, List.setIfInBounds_toArray, List.set_cons_zero, List.set_cons_succ]
        clear hHeld
        apply one_rest7 (F := fun A5 c5 _ A7 c7 W => IsEst W eb (A7.map (·.block)) base va vn (.slice A7 (l.length + 1) c7) all nodes (l ++ [(⟨⟨s.kd, A5, c5, s.ns⟩, decide (0 < L)⟩ : Ad)]) ∧ Keep (fun i => i = eb ∨ some i = r) w6 W ∧ (∀ x, A7.map (·.block) = some x → r = some x ∨ w6.heap.size ≤ x) ∧ Blk W g 32 #[v2] ∧ IsSet W v2 (andW nodes (ofW s.ns)))
        case main =>
          intro REST
          have hkd : Same w6 w6.drew := (Keep.refl _ _).drew
          generalize w6.drew = wd at *
          refine wpAnyH_ready (rs := [4, 6]) (by kernel_rfl) (by simp) ?_
          refine AllReadyH.cons rfl (fun K hK => ?_) (AllReadyH.cons rfl (fun K hK => ?_) AllReadyH.nil)
          · have e1 : (wd).cell? ⟨eb, 2, none⟩ = some (.slice A l.length c) := (HE.out _ (HK56.out.then (hkd))).top.at_ 2
            go_simp
            clear e1
            refine hK.out _ _ (HS7.out _ (hkd)) (fun hHeld1 => ?_)
            clear hK K
            try simp only [Act.put, List.setIfInBounds_toArray, List.set_cons_zero, List.set_cons_succ]
            refine wpAnyH_ready (rs := [6]) (by kernel_rfl) (by simp) ?_
            refine AllReadyH.cons rfl (fun K hK => ?_) AllReadyH.nil
            go_simp
            refine (HCP.out _ (hkd)).mono ?_
            rintro e wo2 ⟨A2, c2, rfl, hs2, hk2⟩
            have hs2 : SrOk wo2 (· < w6.heap.size) ⟨s.kd, A2, c2, s.ns⟩ := Sl.wide hs2 (fun i _ e => by have e2 : i < w6.heap.size := e; have e3 := (hkd).size; show i < _; omega)
            have hK2 : Same w6 wo2 := (hkd).then hk2
            refine hK.out _ _ (HS7.out _ (hK2)) (fun hHeld2 => ?_)
            clear hK K
            try simp only [Act.put, List.setIfInBounds_toArray, List.set_cons_zero, List.set_cons_succ]
            refine takeO (i := 8) (v := ?_) (by kernel_rfl) (by kernel_rfl) (by kernel_rfl) (fun c a d v w h => by cases d <;> exact h) (oi := ?_) ?_ ?_ (by assumption) ?_
            rotate_left 2
            · (simp only [List.getElem?_toArray, List.getElem?_cons_succ, List.getElem?_cons_zero]; rfl)
            · (refine Or.inl ⟨by rfl, ?_⟩; intro w hSw; (try dsimp only at hSw); go_simp; try with_reducible rfl)
            try simp only [Act.put, List.setIfInBounds_toArray, List.set_cons_zero, List.set_cons_succ]
            refine wpAnyH_ready (rs := [9]) (by kernel_rfl) (by simp) ?_
            refine AllReadyH.cons rfl (fun K hK => ?_) AllReadyH.nil
            go_simp
            have hb3 := Blk.made (wo2) 77 #[.int .i64 s.kd, .slice A2 s.ns.length c2, .bool (decide (0 < L))]
            have hk3 : Same (wo2) ((wo2).alloc (.cells #[.int .i64 s.kd, .slice A2 s.ns.length c2, .bool (decide (0 < L))] 77)) := (Keep.refl _ _).alloc _
            obtain ⟨g3, hg3⟩ : ∃ g, g = (wo2).heap.size := ⟨_, rfl⟩
            rw [← hg3] at hb3 ⊢
            clear hg3
            generalize ((wo2).alloc (.cells #[.int .i64 s.kd, .slice A2 s.ns.length c2, .bool (decide (0 < L))] 77)) = wo3 at *
            have hK3 : Same w6 wo3 := (hK2).then hk3
            have hs_3 : SrOk wo3 (· < w6.heap.size) ⟨s.kd, A2, c2, s.ns⟩ := Sl.same hs2 hk3
            refine hK.out _ _ (HS7.out _ (hK3)) (fun hHeld3 => ?_)
            clear hK K
            try simp only [Act.put, List.setIfInBounds_toArray, List.set_cons_zero, List.set_cons_succ]
            refine wpAnyH_ready (rs := [10]) (by kernel_rfl) (by simp) ?_
            refine AllReadyH.cons rfl (fun K hK => ?_) AllReadyH.nil
            have hEc := HE.out _ (HK56.out.then (hK3))
            refine EAd.step2 rfl (.tmp 43) (.tmp 48) rfl (.slice A l.length c) (some ⟨g3, 0, none⟩) 1 1 rfl rfl base l.length (adcells l) (Ad.cells (⟨⟨s.kd, A2, c2, s.ns⟩, decide (0 < L)⟩ : Ad)) (l.length + 1) (adcells l ++ Ad.cells (⟨⟨s.kd, A2, c2, s.ns⟩, decide (0 < L)⟩ : Ad)) rfl rfl hEc.row rfl (fun _ => ⟨_, rfl, src_blk (hb3)⟩) (ad_one _) (by omega) (by unfold maxLen; omega) (by have h1 := hEc.lo; have h2 := hEc.top.lt; omega) ?_
            intro A7 c7 w7 ho7 hg7 hw7
            have hsd := add_side hEc (HSB.out _ (HK56.out.then (hK3))) (HV6.out.1.keep (hK3) (fun f => f)) hg7
            have hrow := add_row HE6.out HN.out (hK3) (⟨⟨s.kd, A2, c2, s.ns⟩, decide (0 < L)⟩ : Ad) (hs_3) HNS.out ho7 hg7 hw7
            refine hK.out _ _ (by exact ⟨by rw [hsd.1.1.at_ 0]; rfl, hsd.1.2.1.at_ 0, hsd.1.2.1.at_ 1⟩) (fun hHeldA => ?_)
            clear hK K
            try simp only [Act.put, List.setIfInBounds_toArray]
            have hHeld : (w7.cell? ⟨eb, 0, none⟩).isSome = true ∧ w7.cell? ⟨w.heap.size, 0, none⟩ = some (.int .i64 s.kd) ∧ w7.cell? ⟨w.heap.size, 1, none⟩ = some (.slice s.A s.ns.length s.c) := ⟨by rw [hsd.1.1.at_ 0]; rfl, hsd.1.2.1.at_ 0, hsd.1.2.1.at_ 1⟩
            refine takeO (i := 11) (v := ?_) (by kernel_rfl) (by kernel_rfl) (by kernel_rfl) (fun c a d v w h => by cases d <;> exact h) (oi := ?_) ?_ ?_ (by assumption) ?_
            rotate_left 2
            · (simp only [List.getElem?_toArray, List.getElem?_cons_succ, List.getElem?_cons_zero]; rfl)
            · (refine Or.inl ⟨by rfl, ?_⟩; intro w hSw; (try dsimp only at hSw); go_simp; try with_reducible rfl)
            try simp only [Act.put]
            refine takeO (i := 12) (v := ?_) (by kernel_rfl) (by kernel_rfl) (by kernel_rfl) (fun c a d v w h => by cases d <;> exact h) (oi := ?_) ?_ ?_ (by assumption) ?_
            rotate_left 2
            · (simp only [List.getElem?_toArray, List.getElem?_cons_succ, List.getElem?_cons_zero]; rfl)
            · (refine Or.inl ⟨by rfl, ?_⟩; intro w hSw; (try dsimp only at hSw); go_simp; try with_reducible rfl)
            try simp only [Act.put]
            refine wpAnyH_ready (rs := [13]) (by kernel_rfl) (by simp) ?_
            refine AllReadyH.cons rfl (fun K hK => ?_) AllReadyH.nil
            have x2 : w7.cell? ⟨eb, 2, none⟩ = some (.slice A l.length c) := hsd.1.1.at_ 2
            have x3 := hsd.1.1.free 2
            go_simp
            refine hK.out _ _ (by exact ⟨by rw [(hsd.2 (.slice A7 (l.length + 1) c7)).1.at_ 0]; rfl, (hsd.2 (.slice A7 (l.length + 1) c7)).2.1.at_ 0, (hsd.2 (.slice A7 (l.length + 1) c7)).2.1.at_ 1⟩) (fun hHeldB => ?_)
            clear hK K
            try simp only [Act.put, List.setIfInBounds_toArray, List.set_cons_zero, List.set_cons_succ]
            refine wpAnyH_done (by kernel_rfl) ?_ _
            exact REST A2 c2 g3 A7 c7 _ ⟨hrow.1, hrow.2.1, hrow.2.2, (hsd.2 (.slice A7 (l.length + 1) c7)).2.2, HV6.out.2.keepBut hrow.2.1 HBM.out⟩
          · go_simp
            refine (HCP.out _ (hkd)).mono ?_
            rintro e wo4 ⟨A4, c4, rfl, hs4, hk4⟩
            have hs4 : SrOk wo4 (· < w6.heap.size) ⟨s.kd, A4, c4, s.ns⟩ := Sl.wide hs4 (fun i _ e => by have e2 : i < w6.heap.size := e; have e3 := (hkd).size; show i < _; omega)
            have hK4 : Same w6 wo4 := (hkd).then hk4
            refine hK.out _ _ (HS7.out _ (hK4)) (fun hHeld4 => ?_)
            clear hK K
            try simp only [Act.put, List.setIfInBounds_toArray, List.set_cons_zero, List.set_cons_succ]
            refine takeO (i := 8) (v := ?_) (by kernel_rfl) (by kernel_rfl) (by kernel_rfl) (fun c a d v w h => by cases d <;> exact h) (oi := ?_) ?_ ?_ (by assumption) ?_
            rotate_left 2
            · (simp only [List.getElem?_toArray, List.getElem?_cons_succ, List.getElem?_cons_zero]; rfl)
            · (refine Or.inl ⟨by rfl, ?_⟩; intro w hSw; (try dsimp only at hSw); go_simp; try with_reducible rfl)
            try simp only [Act.put, List.setIfInBounds_toArray, List.set_cons_zero, List.set_cons_succ]
            refine wpAnyH_ready (rs := [4, 9]) (by kernel_rfl) (by simp) ?_
            refine AllReadyH.cons rfl (fun K hK => ?_) (AllReadyH.cons rfl (fun K hK => ?_) AllReadyH.nil)
            · have e5 : (wo4).cell? ⟨eb, 2, none⟩ = some (.slice A l.length c) := (HE.out _ (HK56.out.then (hK4))).top.at_ 2
              go_simp
              clear e5
              refine hK.out _ _ (HS7.out _ (hK4)) (fun hHeld5 => ?_)
              clear hK K
              try simp only [Act.put, List.setIfInBounds_toArray, List.set_cons_zero, List.set_cons_succ]
              refine wpAnyH_ready (rs := [9]) (by kernel_rfl) (by simp) ?_
              refine AllReadyH.cons rfl (fun K hK => ?_) AllReadyH.nil
              go_simp
              have hb6 := Blk.made (wo4) 77 #[.int .i64 s.kd, .slice A4 s.ns.length c4, .bool (decide (0 < L))]
              have hk6 : Same (wo4) ((wo4).alloc (.cells #[.int .i64 s.kd, .slice A4 s.ns.length c4, .bool (decide (0 < L))] 77)) := (Keep.refl _ _).alloc _
              obtain ⟨g6, hg6⟩ : ∃ g, g = (wo4).heap.size := ⟨_, rfl⟩
              rw [← hg6] at hb6 ⊢
              clear hg6
              generalize ((wo4).alloc (.cells #[.int .i64 s.kd, .slice A4 s.ns.length c4, .bool (decide (0 < L))] 77)) = wo6 at *
              have hK6 : Same w6 wo6 := (hK4).then hk6
              have hs_6 : SrOk wo6 (· < w6.heap.size) ⟨s.kd, A4, c4, s.ns⟩ := Sl.same hs4 hk6
              refine hK.out _ _ (HS7.out _ (hK6)) (fun hHeld6 => ?_)
              clear hK K
              try simp only [Act.put, List.setIfInBounds_toArray, List.set_cons_zero, List.set_cons_succ]
              refine wpAnyH_ready (rs := [10]) (by kernel_rfl) (by simp) ?_
              refine AllReadyH.cons rfl (fun K hK => ?_) AllReadyH.nil
              have hEc := HE.out _ (HK56.out.then (hK6))
              refine EAd.step2 rfl (.tmp 43) (.tmp 48) rfl (.slice A l.length c) (some ⟨g6, 0, none⟩) 1 1 rfl rfl base l.length (adcells l) (Ad.cells (⟨⟨s.kd, A4, c4, s.ns⟩, decide (0 < L)⟩ : Ad)) (l.length + 1) (adcells l ++ Ad.cells (⟨⟨s.kd, A4, c4, s.ns⟩, decide (0 < L)⟩ : Ad)) rfl rfl hEc.row rfl (fun _ => ⟨_, rfl, src_blk (hb6)⟩) (ad_one _) (by omega) (by unfold maxLen; omega) (by have h1 := hEc.lo; have h2 := hEc.top.lt; omega) ?_
              intro A7 c7 w7 ho7 hg7 hw7
              have hsd := add_side hEc (HSB.out _ (HK56.out.then (hK6))) (HV6.out.1.keep (hK6) (fun f => f)) hg7
              have hrow := add_row HE6.out HN.out (hK6) (⟨⟨s.kd, A4, c4, s.ns⟩, decide (0 < L)⟩ : Ad) (hs_6) HNS.out ho7 hg7 hw7
              refine hK.out _ _ (by exact ⟨by rw [hsd.1.1.at_ 0]; rfl, hsd.1.2.1.at_ 0, hsd.1.2.1.at_ 1⟩) (fun hHeldA => ?_)
              clear hK K
              try simp only [Act.put, List.setIfInBounds_toArray]
              have hHeld : (w7.cell? ⟨eb, 0, none⟩).isSome = true ∧ w7.cell? ⟨w.heap.size, 0, none⟩ = some (.int .i64 s.kd) ∧ w7.cell? ⟨w.heap.size, 1, none⟩ = some (.slice s.A s.ns.length s.c) := ⟨by rw [hsd.1.1.at_ 0]; rfl, hsd.1.2.1.at_ 0, hsd.1.2.1.at_ 1⟩
              refine takeO (i := 11) (v := ?_) (by kernel_rfl) (by kernel_rfl) (by kernel_rfl) (fun c a d v w h => by cases d <;> exact h) (oi := ?_) ?_ ?_ (by assumption) ?_
              rotate_left 2
              · (simp only [List.getElem?_toArray, List.getElem?_cons_succ, List.getElem?_cons_zero]; rfl)
              · (refine Or.inl ⟨by rfl, ?_⟩; intro w hSw; (try dsimp only at hSw); go_simp; try with_reducible rfl)
              try simp only [Act.put]
              refine takeO (i := 12) (v := ?_) (by kernel_rfl) (by kernel_rfl) (by kernel_rfl) (fun c a d v w h => by cases d <;> exact h) (oi := ?_) ?_ ?_ (by assumption) ?_
              rotate_left 2
              · (simp only [List.getElem?_toArray, List.getElem?_cons_succ, List.getElem?_cons_zero]; rfl)
              · (refine Or.inl ⟨by rfl, ?_⟩; intro w hSw; (try dsimp only at hSw); go_simp; try with_reducible rfl)
              try simp only [Act.put]
              refine wpAnyH_ready (rs := [13]) (by kernel_rfl) (by simp) ?_
              refine AllReadyH.cons rfl (fun K hK => ?_) AllReadyH.nil
              have x2 : w7.cell? ⟨eb, 2, none⟩ = some (.slice A l.length c) := hsd.1.1.at_ 2
              have x3 := hsd.1.1.free 2
              go_simp
              refine hK.out _ _ (by exact ⟨by rw [(hsd.2 (.slice A7 (l.length + 1) c7)).1.at_ 0]; rfl, (hsd.2 (.slice A7 (l.length + 1) c7)).2.1.at_ 0, (hsd.2 (.slice A7 (l.length + 1) c7)).2.1.at_ 1⟩) (fun hHeldB => ?_)
              clear hK K
              try simp only [Act.put, List.setIfInBounds_toArray, List.set_cons_zero, List.set_cons_succ]
              refine wpAnyH_done (by kernel_rfl) ?_ _
              exact REST A4 c4 g6 A7 c7 _ ⟨hrow.1, hrow.2.1, hrow.2.2, (hsd.2 (.slice A7 (l.length + 1) c7)).2.2, HV6.out.2.keepBut hrow.2.1 HBM.out⟩
            · go_simp
              have hb7 := Blk.made (wo4) 77 #[.int .i64 s.kd, .slice A4 s.ns.length c4, .bool (decide (0 < L))]
              have hk7 : Same (wo4) ((wo4).alloc (.cells #[.int .i64 s.kd, .slice A4 s.ns.length c4, .bool (decide (0 < L))] 77)) := (Keep.refl _ _).alloc _
              obtain ⟨g7, hg7⟩ : ∃ g, g = (wo4).heap.size := ⟨_, rfl⟩
              rw [← hg7] at hb7 ⊢
              clear hg7
              generalize ((wo4).alloc (.cells #[.int .i64 s.kd, .slice A4 s.ns.length c4, .bool (decide (0 < L))] 77)) = wo7 at *
              have hK7 : Same w6 wo7 := (hK4).then hk7
              have hs_7 : SrOk wo7 (· < w6.heap.size) ⟨s.kd, A4, c4, s.ns⟩ := Sl.same hs4 hk7
              refine hK.out _ _ (HS7.out _ (hK7)) (fun hHeld7 => ?_)
              clear hK K
              try simp only [Act.put, List.setIfInBounds_toArray, List.set_cons_zero, List.set_cons_succ]
              refine wpAnyH_ready (rs := [4]) (by kernel_rfl) (by simp) ?_
              refine AllReadyH.cons rfl (fun K hK => ?_) AllReadyH.nil
              have e8 : (wo7).cell? ⟨eb, 2, none⟩ = some (.slice A l.length c) := (HE.out _ (HK56.out.then (hK7))).top.at_ 2
              go_simp
              clear e8
              refine hK.out _ _ (HS7.out _ (hK7)) (fun hHeld8 => ?_)
              clear hK K
              try simp only [Act.put, List.setIfInBounds_toArray, List.set_cons_zero, List.set_cons_succ]
              refine wpAnyH_ready (rs := [10]) (by kernel_rfl) (by simp) ?_
              refine AllReadyH.cons rfl (fun K hK => ?_) AllReadyH.nil
              have hEc := HE.out _ (HK56.out.then (hK7))
              refine EAd.step2 rfl (.tmp 43) (.tmp 48) rfl (.slice A l.length c) (some ⟨g7, 0, none⟩) 1 1 rfl rfl base l.length (adcells l) (Ad.cells (⟨⟨s.kd, A4, c4, s.ns⟩, decide (0 < L)⟩ : Ad)) (l.length + 1) (adcells l ++ Ad.cells (⟨⟨s.kd, A4, c4, s.ns⟩, decide (0 < L)⟩ : Ad)) rfl rfl hEc.row rfl (fun _ => ⟨_, rfl, src_blk (hb7)⟩) (ad_one _) (by omega) (by unfold maxLen; omega) (by have h1 := hEc.lo; have h2 := hEc.top.lt; omega) ?_
              intro A7 c7 w7 ho7 hg7 hw7
              have hsd := add_side hEc (HSB.out _ (HK56.out.then (hK7))) (HV6.out.1.keep (hK7) (fun f => f)) hg7
              have hrow := add_row HE6.out HN.out (hK7) (⟨⟨s.kd, A4, c4, s.ns⟩, decide (0 < L)⟩ : Ad) (hs_7) HNS.out ho7 hg7 hw7
              refine hK.out _ _ (by exact ⟨by rw [hsd.1.1.at_ 0]; rfl, hsd.1.2.1.at_ 0, hsd.1.2.1.at_ 1⟩) (fun hHeldA => ?_)
              clear hK K
              try simp only [Act.put, List.setIfInBounds_toArray]
              have hHeld : (w7.cell? ⟨eb, 0, none⟩).isSome = true ∧ w7.cell? ⟨w.heap.size, 0, none⟩ = some (.int .i64 s.kd) ∧ w7.cell? ⟨w.heap.size, 1, none⟩ = some (.slice s.A s.ns.length s.c) := ⟨by rw [hsd.1.1.at_ 0]; rfl, hsd.1.2.1.at_ 0, hsd.1.2.1.at_ 1⟩
              refine takeO (i := 11) (v := ?_) (by kernel_rfl) (by kernel_rfl) (by kernel_rfl) (fun c a d v w h => by cases d <;> exact h) (oi := ?_) ?_ ?_ (by assumption) ?_
              rotate_left 2
              · (simp only [List.getElem?_toArray, List.getElem?_cons_succ, List.getElem?_cons_zero]; rfl)
              · (refine Or.inl ⟨by rfl, ?_⟩; intro w hSw; (try dsimp only at hSw); go_simp; try with_reducible rfl)
              try simp only [Act.put]
              refine takeO (i := 12) (v := ?_) (by kernel_rfl) (by kernel_rfl) (by kernel_rfl) (fun c a d v w h => by cases d <;> exact h) (oi := ?_) ?_ ?_ (by assumption) ?_
              rotate_left 2
              · (simp only [List.getElem?_toArray, List.getElem?_cons_succ, List.getElem?_cons_zero]; rfl)
              · (refine Or.inl ⟨by rfl, ?_⟩; intro w hSw; (try dsimp only at hSw); go_simp; try with_reducible rfl)
              try simp only [Act.put]
              refine wpAnyH_ready (rs := [13]) (by kernel_rfl) (by simp) ?_
              refine AllReadyH.cons rfl (fun K hK => ?_) AllReadyH.nil
              have x2 : w7.cell? ⟨eb, 2, none⟩ = some (.slice A l.length c) := hsd.1.1.at_ 2
              have x3 := hsd.1.1.free 2
              go_simp
              refine hK.out _ _ (by exact ⟨by rw [(hsd.2 (.slice A7 (l.length + 1) c7)).1.at_ 0]; rfl, (hsd.2 (.slice A7 (l.length + 1) c7)).2.1.at_ 0, (hsd.2 (.slice A7 (l.length + 1) c7)).2.1.at_ 1⟩) (fun hHeldB => ?_)
              clear hK K
              try simp only [Act.put, List.setIfInBounds_toArray, List.set_cons_zero, List.set_cons_succ]
              refine wpAnyH_done (by kernel_rfl) ?_ _
              exact REST A4 c4 g7 A7 c7 _ ⟨hrow.1, hrow.2.1, hrow.2.2, (hsd.2 (.slice A7 (l.length + 1) c7)).2.2, HV6.out.2.keepBut hrow.2.1 HBM.out⟩
        case rest =>
          intro A5 c5 g9 A7 c7 W7 hF
          obtain ⟨hE7, hk7, hr7, hv7, hs7⟩ := hF
          have HO := hid HV5.out.2.ok
          have HONE := hid (HV5.out.2.one)
          have HK7 := hid ((HK.out.then HK56.out).wide (T := fun i => i = eb ∨ some i = r) (fun _ _ f => f.elim) |>.trans hk7 (fun i _ e => e))
          have HR7 := hid (show ∀ x, A7.map (·.block) = some x → r = some x ∨ w.heap.size ≤ x from fun x e => (hr7 x e).imp id (fun h => by have h1 := (HK.out.then HK56.out).size; omega))
          generalize hacc : decide (0 < L) = acc at *
          have HC := hid hacc
          clear hacc
          have HE7 := hid hE7
          have HV7 := hid (And.intro hv7 hs7)
          clear hE7 hk7 hr7 hv7 hs7 HCP HS7 HBM
          cases acc with
          | false =>
            have HA := hid (show addS nodes l.length s.key.1 s.key.2 = (nodes, some false, false, 0) from by
              have h1 := HC.out
              have h2 := HL.out
              rw [addS, if_neg (show ¬ rightB s.key.1 s.key.2.length = false from HR.out), if_neg (by have := HN.out; omega), if_pos]
              exact (elemsW_pos HO.out).1 (by have h3 : ¬ 0 < L := of_decide_eq_false h1; show (elemsW (andW nodes (ofW s.ns))).length = 0; rw [h2]; omega))
            go_upto_region 8 with fail
            refine wp_region_held_drew (S := fun W => True) (by kernel_rfl) trivial (fun hHeld => ?_)
            refine takeO (i := 0) (v := ?_) (by kernel_rfl) (by kernel_rfl) (by kernel_rfl) (fun c a d v w h => by cases d <;> exact h) (oi := ?_) ?_ ?_ (by assumption) ?_
            rotate_left 2
            · (simp only [List.getElem?_toArray, List.getElem?_cons_zero]; rfl)
            · (refine Or.inl ⟨by rfl, ?_⟩; intro w hSw; (try dsimp only at hSw); go_simp; try with_reducible rfl)
            try simp only [Act.put, List.setIfInBounds_toArray, List.set_cons_zero, List.set_cons_succ]
            refine takeO (i := 1) (v := ?_) (by kernel_rfl) (by kernel_rfl) (by kernel_rfl) (fun c a d v w h => by cases d <;> exact h) (oi := ?_) ?_ ?_ (by assumption) ?_
            rotate_left 2
            · (simp only [List.getElem?_toArray, List.getElem?_cons_succ, List.getElem?_cons_zero]; rfl)
            · (refine Or.inl ⟨by rfl, ?_⟩; intro w hSw; (try dsimp only at hSw); go_simp; try with_reducible rfl)
            try simp only [Act.put, List.setIfInBounds_toArray, List.set_cons_zero, List.set_cons_succ]
            refine takeO (i := 2) (v := ?_) (by kernel_rfl) (by kernel_rfl) (by kernel_rfl) (fun c a d v w h => by cases d <;> exact h) (oi := ?_) ?_ ?_ (by assumption) ?_
            rotate_left 2
            · (simp only [List.getElem?_toArray, List.getElem?_cons_succ, List.getElem?_cons_zero]; rfl)
            · (refine Or.inl ⟨by rfl, ?_⟩; intro w hSw; (try dsimp only at hSw); go_simp; try with_reducible rfl)
            try simp only [Act.put, List.setIfInBounds_toArray, List.set_cons_zero, List.set_cons_succ]
            refine takeO (i := 3) (v := undef) (by kernel_rfl) (by kernel_rfl) (by kernel_rfl) (fun c a d v w h => by cases d <;> exact h) (oi := ?_) ?_ ?_ (by assumption) ?_
            rotate_left 1
            · (simp only [List.getElem?_toArray, List.getElem?_cons_succ, List.getElem?_cons_zero]; rfl)
            · exact Or.inr ⟨by rfl, rfl⟩
            try simp only [Act.put, List.setIfInBounds_toArray, List.set_cons_zero, List.set_cons_succ]
            refine takeO (i := 4) (v := undef) (by kernel_rfl) (by kernel_rfl) (by kernel_rfl) (fun c a d v w h => by cases d <;> exact h) (oi := ?_) ?_ ?_ (by assumption) ?_
            rotate_left 1
            · (simp only [List.getElem?_toArray, List.getElem?_cons_succ, List.getElem?_cons_zero]; rfl)
            · exact Or.inr ⟨by rfl, rfl⟩
            try simp only [Act.put, List.setIfInBounds_toArray, List.set_cons_zero, List.set_cons_succ]
            refine takeO (i := 5) (v := undef) (by kernel_rfl) (by kernel_rfl) (by kernel_rfl) (fun c a d v w h => by cases d <;> exact h) (oi := ?_) ?_ ?_ (by assumption) ?_
            rotate_left 1
            · (simp only [List.getElem?_toArray, List.getElem?_cons_succ, List.getElem?_cons_zero]; rfl)
            · exact Or.inr ⟨by rfl, rfl⟩
            try simp only [Act.put, List.setIfInBounds_toArray, List.set_cons_zero, List.set_cons_succ]
            refine takeO (i := 6) (v := undef) (by kernel_rfl) (by kernel_rfl) (by kernel_rfl) (fun c a d v w h => by cases d <;> exact h) (oi := ?_) ?_ ?_ (by assumption) ?_
            rotate_left 1
            · (simp only [List.getElem?_toArray, List.getElem?_cons_succ, List.getElem?_cons_zero]; rfl)
            · exact Or.inr ⟨by rfl, rfl⟩
            try simp only [Act.put, List.setIfInBounds_toArray, List.set_cons_zero, List.set_cons_succ]
            refine takeO (i := 7) (v := undef) (by kernel_rfl) (by kernel_rfl) (by kernel_rfl) (fun c a d v w h => by cases d <;> exact h) (oi := ?_) ?_ ?_ (by assumption) ?_
            rotate_left 1
            · (simp only [List.getElem?_toArray, List.getElem?_cons_succ, List.getElem?_cons_zero]; rfl)
            · exact Or.inr ⟨by rfl, rfl⟩
            try simp only [Act.put, List.setIfInBounds_toArray, List.set_cons_zero, List.set_cons_succ]
            refine takeO (i := 8) (v := undef) (by kernel_rfl) (by kernel_rfl) (by kernel_rfl) (fun c a d v w h => by cases d <;> exact h) (oi := ?_) ?_ ?_ (by assumption) ?_
            rotate_left 1
            · (simp only [List.getElem?_toArray, List.getElem?_cons_succ, List.getElem?_cons_zero]; rfl)
            · exact Or.inr ⟨by rfl, rfl⟩
            try simp only [Act.put, List.setIfInBounds_toArray, List.set_cons_zero, List.set_cons_succ]
            refine takeO (i := 9) (v := ?_) (by kernel_rfl) (by kernel_rfl) (by kernel_rfl) (fun c a d v w h => by cases d <;> exact h) (oi := ?_) ?_ ?_ (by assumption) ?_
            rotate_left 2
            · (simp only [List.getElem?_toArray, List.getElem?_cons_succ, List.getElem?_cons_zero]; rfl)
            · (refine Or.inl ⟨by rfl, ?_⟩; intro w hSw; (try dsimp only at hSw); go_simp; try with_reducible rfl)
            try simp only [Act.put, List.setIfInBounds_toArray, List.set_cons_zero, List.set_cons_succ]
            refine wpAnyH_done (by kernel_rfl) ?_ _
            go_wp2_with fail
            go_ret2
            rw [AddPost, HA.out]
            exact ⟨A7.map (·.block), va, vn, .slice A7 (l.length + 1) c7, l ++ [⟨⟨s.kd, A5, c5, s.ns⟩, false⟩], rfl, HE7.out.same (Keep.refl _ _).drew, by simp [vws, Sr.key], HK7.out.drew, HR7.out⟩
          | true =>
            have HNZ := hid (show ¬ andW nodes (ofW s.ns) = zeroW from by
              intro e
              have h1 := HC.out
              have h2 := HL.out
              rw [(elemsW_pos HO.out).2 e] at h2
              have h3 : 0 < L := of_decide_eq_true h1
              omega)
            obtain ⟨q, hq⟩ : ∃ q, q = decide (andW nodes (ofW s.ns) = nodes) := ⟨_, rfl⟩
            have HEQ := hid (fun W (hk : Same W7 W) => (show Calls Tryd.prog 31 #[.agg #[v2], .agg #[vn]] W (fun e w' => e = .returned (.bool q) ∧ Same W w') from by rw [hq]; exact equal_any W v2 vn _ _ (HV7.out.2.same hk) (HE7.out.nodes_.same hk)))
            have HS8 := hid (fun W (hk : Same W7 W) => (show (W.cell? ⟨eb, 0, none⟩).isSome = true ∧ W.cell? ⟨eb, 1, none⟩ = some vn ∧ W.cell? ⟨g, 0, none⟩ = some v2 from ⟨by rw [(HE7.out.top.keep hk (fun f => f)).at_ 0]; rfl, (HE7.out.top.keep hk (fun f => f)).at_ 1, (HV7.out.1.keep hk (fun f => f)).at_ 0⟩))
            have HQ := hid hq
            clear hq
            go_upto_region 8 with fail
            refine wp_region_held_drew (S := fun W => (W.cell? ⟨eb, 0, none⟩).isSome = true ∧ W.cell? ⟨eb, 1, none⟩ = some vn ∧ W.cell? ⟨g, 0, none⟩ = some v2) (by kernel_rfl) (HS8.out _ (Keep.refl _ _).drew) (fun hHeld => ?_)
            refine takeO (i := 0) (v := ?_) (by kernel_rfl) (by kernel_rfl) (by kernel_rfl) (fun c a d v w h => by cases d <;> exact h) (oi := ?_) ?_ ?_ (by assumption) ?_
            rotate_left 2
            · (simp only [List.getElem?_toArray, List.getElem?_cons_zero]; rfl)
            · (refine Or.inl ⟨by rfl, ?_⟩; intro w hSw; (try dsimp only at hSw); go_simp; try with_reducible rfl)
            try simp only [Act.put, List.setIfInBounds_toArray, List.set_cons_zero, List.set_cons_succ]
            refine takeO (i := 1) (v := ?_) (by kernel_rfl) (by kernel_rfl) (by kernel_rfl) (fun c a d v w h => by cases d <;> exact h) (oi := ?_) ?_ ?_ (by assumption) ?_
            rotate_left 2
            · (simp only [List.getElem?_toArray, List.getElem?_cons_succ, List.getElem?_cons_zero]; rfl)
            · (refine Or.inl ⟨by rfl, ?_⟩; intro w hSw; (try dsimp only at hSw); go_simp; try with_reducible rfl)
            try simp only [Act.put, List.setIfInBounds_toArray, List.set_cons_zero, List.set_cons_succ]
            refine takeO (i := 2) (v := ?_) (by kernel_rfl) (by kernel_rfl) (by kernel_rfl) (fun c a d v w h => by cases d <;> exact h) (oi := ?_) ?_ ?_ (by assumption) ?_
            rotate_left 2
            · (simp only [List.getElem?_toArray, List.getElem?_cons_succ, List.getElem?_cons_zero]; rfl)
            · (refine Or.inl ⟨by rfl, ?_⟩; intro w hSw; (try dsimp only at hSw); go_simp; try with_reducible rfl)
            try simp only [Act.put, List.setIfInBounds_toArray, List.set_cons_zero, List.set_cons_succ]
            refine takeO (i := 3) (v := ?_) (by kernel_rfl) (by kernel_rfl) (by kernel_rfl) (fun c a d v w h => by cases d <;> exact h) (oi := ?_) ?_ ?_ (by assumption) ?_
            rotate_left 2
            · (simp only [List.getElem?_toArray, List.getElem?_cons_succ, List.getElem?_cons_zero]; rfl)
            · (refine Or.inl ⟨by rfl, ?_⟩; intro w hSw; (try dsimp only at hSw); go_simp; try with_reducible rfl)
            try simp only [Act.put, List.setIfInBounds_toArray, List.set_cons_zero, List.set_cons_succ]
            refine takeO (i := 4) (v := ?_) (by kernel_rfl) (by kernel_rfl) (by kernel_rfl) (fun c a d v w h => by cases d <;> exact h) (oi := ?_) ?_ ?_ (by assumption) ?_
            rotate_left 2
            · (simp only [List.getElem?_toArray, List.getElem?_cons_succ, List.getElem?_cons_zero]; rfl)
            · (refine Or.inl ⟨by rfl, ?_⟩; intro w hSw; (try dsimp only at hSw); go_simp; try with_reducible rfl)
            try simp only [Act.put, List.setIfInBounds_toArray, List.set_cons_zero, List.set_cons_succ]
            refine takeO (i := 5) (v := ?_) (by kernel_rfl) (by kernel_rfl) (by kernel_rfl) (fun c a d v w h => by cases d <;> exact h) (oi := ?_) ?_ ?_ (by assumption) ?_
            rotate_left 2
            · (simp only [List.getElem?_toArray, List.getElem?_cons_succ, List.getElem?_cons_zero]; rfl)
            · (refine Or.inl ⟨by rfl, ?_⟩; intro w hSw; (try dsimp only at hSw); go_simp; try with_reducible rfl)
            try simp only [Act.put, List.setIfInBounds_toArray, List.set_cons_zero, List.set_cons_succ]
            refine takeO (i := 6) (v := ?_) (by kernel_rfl) (by kernel_rfl) (by kernel_rfl) (fun c a d v w h => by cases d <;> exact h) (oi := ?_) ?_ ?_ (by assumption) ?_
            rotate_left 2
            · (simp only [List.getElem?_toArray, List.getElem?_cons_succ, List.getElem?_cons_zero]; rfl)
            · (refine Or.inl ⟨by rfl, ?_⟩; intro w hSw; (try dsimp only at hSw); go_simp; try with_reducible rfl)
            try simp only [Act.put, List.setIfInBounds_toArray, List.set_cons_zero, List.set_cons_succ]
            refine takeO (i := 7) (v := ?_) (by kernel_rfl) (by kernel_rfl) (by kernel_rfl) (fun c a d v w h => by cases d <;> exact h) (oi := ?_) ?_ ?_ (by assumption) ?_
            rotate_left 2
            · (simp only [List.getElem?_toArray, List.getElem?_cons_succ, List.getElem?_cons_zero]; rfl)
            · (refine Or.inl ⟨by rfl, ?_⟩; intro w hSw; (try dsimp only at hSw); go_simp; try with_reducible rfl)
            try simp only [Act.put, List.setIfInBounds_toArray, List.set_cons_zero, List.set_cons_succ]
            refine wpAnyH_ready (rs := [8]) (by kernel_rfl) (by simp) ?_
            refine AllReadyH.cons rfl (fun K hK => ?_) AllReadyH.nil
            go_simp
            refine (HEQ.out _ (Keep.refl _ _).drew).mono ?_
            rintro e w9 ⟨rfl, hk9⟩
            have HK9 := hid (show Same W7 w9 from (Keep.refl _ W7).drew.then hk9)
            clear hk9
            refine hK.out _ _ (HS8.out _ HK9.out) (fun hHeld1 => ?_)
            clear hK K
            try simp only [Act.put, List.setIfInBounds_toArray, List.set_cons_zero, List.set_cons_succ]
            refine takeO (i := 9) (v := ?_) (by kernel_rfl) (by kernel_rfl) (by kernel_rfl) (fun c a d v w h => by cases d <;> exact h) (oi := ?_) ?_ ?_ (by assumption) ?_
            rotate_left 2
            · (simp only [List.getElem?_toArray, List.getElem?_cons_succ, List.getElem?_cons_zero]; rfl)
            · (refine Or.inl ⟨by rfl, ?_⟩; intro w hSw; (try dsimp only at hSw); go_simp; try with_reducible rfl)
            try simp only [Act.put, List.setIfInBounds_toArray, List.set_cons_zero, List.set_cons_succ]
            refine wpAnyH_done (by kernel_rfl) ?_ _
            cases q with
            | true =>
              have HA := hid (show addS nodes l.length s.key.1 s.key.2 = (nodes, some true, false, 0) from by
                rw [addS, if_neg (show ¬ rightB s.key.1 s.key.2.length = false from HR.out), if_neg (by have := HN.out; omega), if_neg (show ¬ andW nodes (ofW s.key.2) = zeroW from HNZ.out), if_pos (show andW nodes (ofW s.key.2) = nodes from of_decide_eq_true HQ.out.symm)])
              go_wp2_with fail
              go_ret2
              rw [AddPost, HA.out]
              exact ⟨A7.map (·.block), va, vn, .slice A7 (l.length + 1) c7, l ++ [⟨⟨s.kd, A5, c5, s.ns⟩, true⟩], rfl, HE7.out.same HK9.out, by simp [vws, Sr.key], HK7.out.trans HK9.out (fun _ _ f => f.elim), HR7.out⟩
            | false =>
              have HA := hid (show addS nodes l.length s.key.1 s.key.2 = (andW nodes (ofW s.ns), some true, true, 0) from by
                rw [addS, if_neg (show ¬ rightB s.key.1 s.key.2.length = false from HR.out), if_neg (by have := HN.out; omega), if_neg (show ¬ andW nodes (ofW s.key.2) = zeroW from HNZ.out), if_neg (show ¬ andW nodes (ofW s.key.2) = nodes from of_decide_eq_false HQ.out.symm)]; rfl)
              obtain ⟨q0, q1, q2⟩ := HS8.out w9 HK9.out
              have HE9 := hid (HE7.out.same HK9.out)
              have HTH := hid (show w9.there eb 1 1 from fun j hj => by
                obtain rfl : j = 0 := by omega
                exact ⟨by rw [q1]; rfl, HE9.out.top.free 1⟩)
              have HE10 := hid (HE9.out.nodes (HV7.out.2.same HK9.out))
              go_wp2_with (refine wpList_store_mid rfl _ (.tmp 65) (.tmp 63) rfl eb 1 #[v2] rfl rfl HTH.out (by kernel_rfl) HONE.out ?_)
              go_ret2
              rw [show w9.setCells eb 1 [v2] = w9.setCell ⟨eb, 1, none⟩ v2 from by simp [World.setCells], AddPost, HA.out]
              exact ⟨A7.map (·.block), va, v2, .slice A7 (l.length + 1) c7, l ++ [⟨⟨s.kd, A5, c5, s.ns⟩, true⟩], rfl, HE10.out.1, by simp [vws, Sr.key], (HK7.out.trans HK9.out (fun _ _ f => f.elim)).trans HE10.out.2 (fun i _ e => .inl e), HR7.out⟩
end Go.Proofs.YtafpcffhkbeloaaDoor

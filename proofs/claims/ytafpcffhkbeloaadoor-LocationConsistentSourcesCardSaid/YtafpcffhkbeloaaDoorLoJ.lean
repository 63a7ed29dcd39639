import Derived.Test.YtafpcffhkbeloaaDoorLoI
namespace Go.Proofs.YtafpcffhkbeloaaDoor
open Go.RowKit

/-! ## Consistent -/
theorem one_rest3 {F G : Value → Value → World → Prop} {goal : Prop} (main : (∀ a b W, F a b W → G a b W) → goal) (rest : ∀ a b W, F a b W → G a b W) : goal := main rest
def conW (all : List Nat) (l : List (Int × List Int)) : List Nat := l.foldl (fun a s => andW a (ofW s.2)) all
theorem conW_snoc (all : List Nat) (l : List Sr) {k : Nat} {s : Sr} (h : l[k]? = some s) : conW all (keys (l.take (k + 1))) = andW (conW all (keys (l.take k))) (ofW s.ns) := by
  rw [List.take_add_one, h]
  simp [conW, keys, Sr.key]
set_option maxRecDepth 100000 in
set_option maxHeartbeats 4000000 in
theorem consistent_any (w : World) (Av : Nat → Prop) (v : Value) (all : List Nat) (X : Option Addr) (c : Nat) (l : List Sr) (hv : IsSet w v all) (h : Srs w Av X l) (hn : ∀ s ∈ l, s.ns.length ≤ 1000000) (hlen : l.length ≤ 1000000) :
    Calls Tryd.prog 25 #[.agg #[v], .slice X l.length c] w fun e w' => e = .returned (.bool (decide (0 < (elemsW (conW all (keys l))).length))) ∧ Same w w' := by
  have ST0 := Blk.made (w.alloc (.cells #[v] 32)) 32 #[.pointer none]
  rw [World.size_alloc] at ST0
  have hk0 : Same w ((w.alloc (.cells #[v] 32)).alloc (.cells #[.pointer none] 32)) := ((Keep.refl _ _).alloc _).alloc _
  have hk1 := Keep.row ((w.alloc (.cells #[v] 32)).alloc (.cells #[.pointer none] 32)) (w.heap.size + 1) #[v]
  have hb1 := ST0.row #[v]
  have HB0 := hid ST0
  have hk2 : Same w _ := hk0.trans hk1 (fun i hi e => by have e2 : i = w.heap.size + 1 := e; omega)
  have HS := hid h
  have HV := hid hv
  have HN := hid hn
  clear h hv hn ST0 hk0
  go_enter Tryd.func25, Tryd.ntmps25
  go_upto_region 2 with (refine wpList_store_row rfl _ (.tmp 5) (.tmp 8) rfl (w.heap.size + 1) #[v] rfl rfl _ _ HB0.out (by kernel_rfl) rfl HV.out.one ?_)
  generalize (((w.alloc (.cells #[v] 32)).alloc (.cells #[.pointer none] 32)).setRow (w.heap.size + 1) #[v]) = w1 at *
  have HB1 := hid hb1
  have HK1 := hid hk2
  clear hk1 hk2 hb1 HB0
  go_wp2_with fail
  go_loopw [11] (fun i wr => ∃ (k : Nat) (u : Value), k ≤ l.length ∧ i = .int .i64 k ∧ Hid (IsSet wr u (conW all (keys (l.take k))) ∧ Blk wr (w.heap.size + 1) 32 #[u] ∧ Same w wr)) (fun i _ => l.length - (RowKit.intOf i).toNat)
  case atStart => exact ⟨0, v, by omega, rfl, hid ⟨HV.out.same HK1.out, HB1.out, HK1.out⟩⟩
  case round =>
    obtain ⟨k, u, hk, rfl, HI⟩ := hrel
    by_cases hlt : k < l.length
    · obtain ⟨s, hks⟩ := get_some hlt
      have hk1 : (k : Int) < (l.length : Int) := by omega
      obtain ⟨b1, o1, rfl, hbl, hrow, c0, c1, hso, _⟩ := Srs.at_ (HS.out.same HI.out.2.2) hks
      have HSN := hid (conW_snoc all l hks)
      have HN4 := hid (HN.out s (List.mem_of_getElem? hks))
      have HSO := hid hso
      clear hrow hso hks
      go_upto_region 5 with fail
      have ha := Blk.made wr 40 #[.int .i64 s.kd, .slice s.A s.ns.length s.c]
      have hka : Same wr (wr.alloc (.cells #[.int .i64 s.kd, .slice s.A s.ns.length s.c] 40)) := (Keep.refl _ _).alloc _
      generalize (wr.alloc (.cells #[.int .i64 s.kd, .slice s.A s.ns.length s.c] 40)) = wa at *
      have HA := hid ha
      have HB5 := hid (HI.out.2.1.keep hka (fun f => f))
      have HU5 := hid (HI.out.1.same hka)
      have HKA := hid (HI.out.2.2.then hka)
      have HS5 := hid (fun W (hk : Same wa W) => (show W.cell? ⟨wr.heap.size, 1, none⟩ = some (.slice s.A s.ns.length s.c) from (HA.out.keep hk (fun f => f)).at_ 1))
      have HOF := hid (fun W (hk : Same wa W) => of_any W Av s.A s.ns s.c ((HSO.out.same hka).same hk) HN4.out)
      unfold SetPost at HOF
      have hne : ¬ wr.heap.size = w.heap.size + 1 := by have h1 := HI.out.2.1.lt; omega
      have HFIN := hid (show ∀ (W : World) (v2 : Value) (ws : List Nat), Same wa W → IsSet W v2 ws → Blk W (w.heap.size + 1) 32 #[u] → (IsSet (W.setRow (w.heap.size + 1) #[v2]) v2 ws ∧ Blk (W.setRow (w.heap.size + 1) #[v2]) (w.heap.size + 1) 32 #[v2] ∧ Same w (W.setRow (w.heap.size + 1) #[v2])) ∧ (W.setRow (w.heap.size + 1) #[v2]).cell? ⟨wr.heap.size, 1, none⟩ = some (.slice s.A s.ns.length s.c) from by
        intro W v2 ws hk hs hb
        have hr := Keep.row W (w.heap.size + 1) #[v2]
        exact ⟨⟨IsSet.far hs hb hr, hb.row _, (HKA.out.then hk).trans hr (fun i hi e => by have e2 : i = w.heap.size + 1 := e; omega)⟩, ((HA.out.keep hk (fun f => f)).keep hr hne).at_ 1⟩)
      clear ha hka c0 c1
      refine wp_region_held_drew (S := fun W => W.cell? ⟨wr.heap.size, 1, none⟩ = some (.slice s.A s.ns.length s.c)) (by kernel_rfl) (HS5.out _ (Keep.refl _ _).drew) (fun hHeld => ?_)
      refine takeO (i := 1) (v := ?_) (by kernel_rfl) (by kernel_rfl) (by kernel_rfl) (fun c a d v w h => by cases d <;> exact h) (oi := ?_) ?_ ?_ (by assumption) ?_
      rotate_left 2
      · (simp only [List.getElem?_toArray, List.getElem?_cons_succ, List.getElem?_cons_zero]; rfl)
      · (refine Or.inl ⟨by rfl, ?_⟩; intro w hSw; (try dsimp only at hSw); go_simp; try with_reducible rfl)
      try simp only [Act.put, List.setIfInBounds_toArray, List.set_cons_zero, List.set_cons_succ]
      refine takeO (i := 2) (v := ?_) (by kernel_rfl) (by kernel_rfl) (by kernel_rfl) (fun c a d v w h => by cases d <;> exact h) (oi := ?_) ?_ ?_ (by assumption) ?_
      rotate_left 2
      · (simp only [List.getElem?_toArray, List.getElem?_cons_succ, List.getElem?_cons_zero]; rfl)
      · (refine Or.inl ⟨by rfl, ?_⟩; intro w hSw; (try dsimp only at hSw); go_simp; try with_reducible rfl)
      try simp only [Act.put, List.setIfInBounds_toArray, List.set_cons_zero, List.set_cons_succ]
      clear hHeld
      apply one_rest3 (F := fun (v1 v2 : Value) (W : World) => IsSet W v2 (andW (conW all (keys (l.take k))) (ofW s.ns)) ∧ Blk W (w.heap.size + 1) 32 #[v2] ∧ Same w W)
      case main =>
        intro REST
        have hkd : Same wa wa.drew := (Keep.refl _ _).drew
        generalize wa.drew = wd at *
        refine wpAnyH_ready (rs := [0, 3]) (by kernel_rfl) (by simp) ?_
        refine AllReadyH.cons rfl (fun K hK => ?_) (AllReadyH.cons rfl (fun K hK => ?_) AllReadyH.nil)
        · have x1 : (wd).cell? ⟨w.heap.size + 1, 0, none⟩ = some u := (HB5.out.keep (hkd) (fun f => f)).at_ 0
          go_simp
          clear x1
          refine hK.out _ _ (HS5.out _ (hkd)) (fun hHeld1 => ?_)
          clear hK K
          try simp only [Act.put, List.setIfInBounds_toArray, List.set_cons_zero, List.set_cons_succ]
          refine wpAnyH_ready (rs := [3]) (by kernel_rfl) (by simp) ?_
          refine AllReadyH.cons rfl (fun K hK => ?_) AllReadyH.nil
          go_simp
          refine (HOF.out _ (hkd)).mono ?_
          rintro e wo2 ⟨v2, rfl, hs2, hk2⟩
          have hK2 : Same wa wo2 := (hkd).then hk2
          refine hK.out _ _ (HS5.out _ (hK2)) (fun hHeld2 => ?_)
          clear hK K
          try simp only [Act.put, List.setIfInBounds_toArray, List.set_cons_zero, List.set_cons_succ]
          refine wpAnyH_ready (rs := [4]) (by kernel_rfl) (by simp) ?_
          refine AllReadyH.cons rfl (fun K hK => ?_) AllReadyH.nil
          go_simp
          refine (inter_any _ _ _ _ _ (HU5.out.same (hK2)) hs2).mono ?_
          rintro e wo3 ⟨v3, rfl, hs3, hk3⟩
          have hK3 : Same wa wo3 := (hK2).then hk3
          refine hK.out _ _ (HS5.out _ (hK3)) (fun hHeld3 => ?_)
          clear hK K
          try simp only [Act.put, List.setIfInBounds_toArray, List.set_cons_zero, List.set_cons_succ]
          refine wpAnyH_ready (rs := [5]) (by kernel_rfl) (by simp) ?_
          refine AllReadyH.cons rfl (fun K hK => ?_) AllReadyH.nil
          have hB4 := HB5.out.keep (hK3) (fun f => f)
          refine store_step rfl _ (.tmp 5) (.tmp 19) rfl (w.heap.size + 1) (#[v3]) rfl rfl 32 _ hB4 (by kernel_rfl) rfl (IsSet.one hs3) ?_
          have hk4 := Keep.row (wo3) (w.heap.size + 1) #[v3]
          have hL4 := HFIN.out _ _ _ (hK3) hs3 hB4
          refine hK.out _ _ hL4.2 (fun hHeld4 => ?_)
          clear hK K
          try simp only [Act.put, List.setIfInBounds_toArray]
          refine wpAnyH_done (by kernel_rfl) ?_ _
          exact REST v2 v3 _ hL4.1
        · go_simp
          refine (HOF.out _ (hkd)).mono ?_
          rintro e wo5 ⟨v5, rfl, hs5, hk5⟩
          have hK5 : Same wa wo5 := (hkd).then hk5
          refine hK.out _ _ (HS5.out _ (hK5)) (fun hHeld5 => ?_)
          clear hK K
          try simp only [Act.put, List.setIfInBounds_toArray, List.set_cons_zero, List.set_cons_succ]
          refine wpAnyH_ready (rs := [0]) (by kernel_rfl) (by simp) ?_
          refine AllReadyH.cons rfl (fun K hK => ?_) AllReadyH.nil
          have x6 : (wo5).cell? ⟨w.heap.size + 1, 0, none⟩ = some u := (HB5.out.keep (hK5) (fun f => f)).at_ 0
          go_simp
          clear x6
          refine hK.out _ _ (HS5.out _ (hK5)) (fun hHeld6 => ?_)
          clear hK K
          try simp only [Act.put, List.setIfInBounds_toArray, List.set_cons_zero, List.set_cons_succ]
          refine wpAnyH_ready (rs := [4]) (by kernel_rfl) (by simp) ?_
          refine AllReadyH.cons rfl (fun K hK => ?_) AllReadyH.nil
          go_simp
          refine (inter_any _ _ _ _ _ (HU5.out.same (hK5)) hs5).mono ?_
          rintro e wo7 ⟨v7, rfl, hs7, hk7⟩
          have hK7 : Same wa wo7 := (hK5).then hk7
          refine hK.out _ _ (HS5.out _ (hK7)) (fun hHeld7 => ?_)
          clear hK K
          try simp only [Act.put, List.setIfInBounds_toArray, List.set_cons_zero, List.set_cons_succ]
          refine wpAnyH_ready (rs := [5]) (by kernel_rfl) (by simp) ?_
          refine AllReadyH.cons rfl (fun K hK => ?_) AllReadyH.nil
          have hB8 := HB5.out.keep (hK7) (fun f => f)
          refine store_step rfl _ (.tmp 5) (.tmp 19) rfl (w.heap.size + 1) (#[v7]) rfl rfl 32 _ hB8 (by kernel_rfl) rfl (IsSet.one hs7) ?_
          have hk8 := Keep.row (wo7) (w.heap.size + 1) #[v7]
          have hL8 := HFIN.out _ _ _ (hK7) hs7 hB8
          refine hK.out _ _ hL8.2 (fun hHeld8 => ?_)
          clear hK K
          try simp only [Act.put, List.setIfInBounds_toArray]
          refine wpAnyH_done (by kernel_rfl) ?_ _
          exact REST v5 v7 _ hL8.1
      case rest =>
        intro v1 v2 W5 hF
        have HF := hid hF
        clear hF
        go_wp2_with fail
        go_roundw
        case rel => exact ⟨k + 1, v2, by omega, by go_num, hid ⟨by rw [HSN.out]; exact HF.out.1, HF.out.2.1, HF.out.2.2⟩⟩
        case measure => simp only [RowKit.intOf]; omega
    · have hk2 : (l.length : Int) ≤ (k : Int) := by omega
      have e : k = l.length := by omega
      have HLW := hid (len_any wr u _ HI.out.1)
      have u0 : wr.cell? ⟨w.heap.size + 1, 0, none⟩ = some u := HI.out.2.1.at_ 0
      have HE := hid (show conW all (keys (l.take k)) = conW all (keys l) from by rw [e, List.take_length])
      clear hk e
      go_wp2_with fail
      (with_reducible refine HLW.out.mono ?_)
      rintro e w6 ⟨rfl, hk6⟩
      have HK6 := hid (HI.out.2.2.then hk6)
      clear hk6 u0
      go_wp2_with fail
      go_ret
      exact ⟨by rw [HE.out]; simp, HK6.out⟩
end Go.Proofs.YtafpcffhkbeloaaDoor

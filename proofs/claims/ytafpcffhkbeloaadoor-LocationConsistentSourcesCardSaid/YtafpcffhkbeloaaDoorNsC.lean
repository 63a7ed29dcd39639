import Derived.Test.YtafpcffhkbeloaaDoorNsB
namespace Go.Proofs.YtafpcffhkbeloaaDoor
open Go.RowKit

theorem IsB.newL (w : World) : IsB (w.alloc (.cells #[.int .u64 0, .int .u64 0, .int .u64 0, .int .u64 0, .int .u64 0, .int .u64 0, .int .u64 0, .int .u64 0, .int .u64 0, .int .u64 0, .int .u64 0, .int .u64 0, .int .u64 0, .int .u64 0, .int .u64 0, .int .u64 0, .int .u64 0, .int .u64 0, .int .u64 0, .int .u64 0, .int .u64 0, .int .u64 0, .int .u64 0, .int .u64 0, .int .u64 0, .int .u64 0, .int .u64 0, .int .u64 0, .int .u64 0, .int .u64 0, .int .u64 0, .int .u64 0, .int .u64 0, .int .u64 0, .int .u64 0, .int .u64 0, .int .u64 0, .int .u64 0, .int .u64 0, .int .u64 0, .int .u64 0, .int .u64 0, .int .u64 0, .int .u64 0, .int .u64 0, .int .u64 0, .int .u64 0, .int .u64 0, .int .u64 0, .int .u64 0, .int .u64 0, .int .u64 0, .int .u64 0, .int .u64 0, .int .u64 0, .int .u64 0, .int .u64 0, .int .u64 0, .int .u64 0, .int .u64 0, .int .u64 0, .int .u64 0, .int .u64 0, .int .u64 0] 72)) w.heap.size zeroW := by rw [← zero_lit]; exact IsB.new w
theorem SetPost.mk2 {w w1 w' : World} {ws : List Nat} {v : Value} {r : Nat} (hs : IsSet w1 v ws) (hk : Same w w1) (hp : Keep (fun i => i = r) w1 w') (hr : w.heap.size ≤ r) (hv : ∀ g, v = .pointer (some ⟨g, 0, none⟩) → g ≠ r) : SetPost w ws (.returned (.agg #[v])) w' := by
  refine ⟨v, rfl, ⟨hs.ok, hs.mem.imp id (fun ⟨g, e, b, n⟩ => ⟨g, e, Blk.keep b hp (hv g e), n⟩)⟩, hk.trans hp (fun i hi e => by have e2 : i = r := e; omega)⟩
/-- the loop's state: the first k words done -/
def zipTo (f : Nat → Nat → Nat) (k : Nat) (a b : List Nat) : List Nat := List.zipWith f (a.take k) (b.take k) ++ a.drop k
section
variable (f : Nat → Nat → Nat) {a b : List Nat}
theorem zipTo_zero : zipTo f 0 a b = a := by simp [zipTo]
theorem zipTo_all (ha : a.length = 64) (hb : b.length = 64) : zipTo f 64 a b = List.zipWith f a b := by
  rw [zipTo, List.take_of_length_le (by omega), List.take_of_length_le (by omega), List.drop_eq_nil_of_le (by omega), List.append_nil]
theorem zipTo_at (h : a.length = b.length) {k x : Nat} (hx : a[k]? = some x) : (zipTo f k a b)[k]? = some x := by
  have hk := (List.getElem?_eq_some_iff.1 hx).1
  have hl : (List.zipWith f (a.take k) (b.take k)).length = k := by rw [List.length_zipWith, List.length_take, List.length_take]; omega
  rw [zipTo, List.getElem?_append_right (by omega), hl, Nat.sub_self, List.getElem?_drop]
  simpa using hx
theorem zipTo_succ (h : a.length = b.length) {k x y : Nat} (hx : a[k]? = some x) (hy : b[k]? = some y) : zipTo f (k + 1) a b = (zipTo f k a b).set k (f x y) := by
  have hk := (List.getElem?_eq_some_iff.1 hx).1
  have hl : (List.zipWith f (a.take k) (b.take k)).length = k := by rw [List.length_zipWith, List.length_take, List.length_take]; omega
  have hd : a.drop k = x :: a.drop (k + 1) := by
    obtain ⟨hk', e⟩ := List.getElem?_eq_some_iff.1 hx
    rw [List.drop_eq_getElem_cons hk', e]
  rw [zipTo, zipTo, hd, List.set_append_right _ _ (by omega), hl, Nat.sub_self, List.set_cons_zero, take_snoc' hx, take_snoc' hy, List.zipWith_append (by rw [List.length_take, List.length_take]; omega)]
  simp
end
set_option maxRecDepth 100000 in
set_option maxHeartbeats 8000000 in
theorem inter_any (w : World) (u v : Value) (a b : List Nat) (ha : IsSet w u a) (hb : IsSet w v b) :
    Calls Tryd.prog 37 #[.agg #[u], .agg #[v]] w (SetPost w (andW a b)) := by
  have hk : Same w (((w.alloc (.cells #[u] 32)).alloc (.cells #[v] 32)).alloc (.cells #[.pointer none] 32)) := (((Keep.refl _ _).alloc _).alloc _).alloc _
  have h0 := ((Blk.made w 32 #[u]).alloc (.cells #[v] 32)).alloc (.cells #[.pointer none] 32)
  have h1 := (Blk.made (w.alloc (.cells #[u] 32)) 32 #[v]).alloc (.cells #[.pointer none] 32)
  have h2 := Blk.made ((w.alloc (.cells #[u] 32)).alloc (.cells #[v] 32)) 32 #[.pointer none]
  simp only [World.size_alloc] at h1 h2
  have h2 : Blk (((w.alloc (.cells #[u] 32)).alloc (.cells #[v] 32)).alloc (.cells #[.pointer none] 32)) (w.heap.size + 2) 32 #[.pointer none] := h2
  generalize hw1 : (((w.alloc (.cells #[u] 32)).alloc (.cells #[v] 32)).alloc (.cells #[.pointer none] 32)) = w1 at *
  have HS := hid (fun W (hk2 : Same w1 W) => (show Blk W w.heap.size 32 #[u] ∧ Blk W (w.heap.size + 1) 32 #[v] from ⟨h0.keep hk2 (fun f => f), h1.keep hk2 (fun f => f)⟩))
  have H2 := hid (fun W (hk2 : Same w1 W) => h2.keep hk2 (fun f => f))
  have HU := hid (fun W (hk2 : Same w1 W) => bitmap_any W u a ((ha.same hk).same hk2))
  have HV := hid (fun W (hk2 : Same w1 W) => bitmap_any W v b ((hb.same hk).same hk2))
  have HK := hid hk
  have HOK := hid (show OkW a ∧ OkW b from ⟨ha.ok, hb.ok⟩)
  have HSZ := hid (show (Tryd.prog.info? 72).map (·.size) = some (wcells a).toArray.size ∧ (Tryd.prog.info? 72).map (·.size) = some (wcells b).toArray.size ∧ (wcells zeroW).toArray.size = (wcells a).toArray.size ∧ (wcells zeroW).toArray.size = (wcells b).toArray.size from by
    simp only [List.size_toArray, wcells_len, ha.ok.len, hb.ok.len, zeroW_ok.len]; exact ⟨by kernel_rfl, by kernel_rfl, trivial, trivial⟩)
  have hlt : w.heap.size + 2 < w1.heap.size := h2.lt
  clear h0 h1 h2 hk ha hb
  go_enter Tryd.func37, Tryd.ntmps37
  go_upto_region 1 with fail
  try rw [hw1]
  clear hw1
  refine wp_region_held_drew (S := fun W => Blk W w.heap.size 32 #[u] ∧ Blk W (w.heap.size + 1) 32 #[v]) (by kernel_rfl) (HS.out _ (Keep.refl _ _).drew) (fun hHeld => ?_)
  refine takeL (i := 0) (by kernel_rfl) (by kernel_rfl) (by kernel_rfl) (fun c a d v w h => by cases d <;> exact h) (oi := ?_) ?_ _ (.tmp 2) ?_ ?_ (w.heap.size) ?_ 32 (#[u]) (0, 0) _ (fun W hW => hW.1) Tryd.underlying32 rfl (by kernel_rfl) (by assumption) ?_
  rotate_left 1
  · (simp only [List.getElem?_toArray, List.getElem?_cons_zero]; rfl)
  · rfl
  · rfl
  · rfl
  try simp only [Act.put, List.setIfInBounds_toArray, List.set_cons_zero, List.set_cons_succ]
  refine takeL (i := 2) (by kernel_rfl) (by kernel_rfl) (by kernel_rfl) (fun c a d v w h => by cases d <;> exact h) (oi := ?_) ?_ _ (.tmp 3) ?_ ?_ (w.heap.size + 1) ?_ 32 (#[v]) (0, 0) _ (fun W hW => hW.2) Tryd.underlying32 rfl (by kernel_rfl) (by assumption) ?_
  rotate_left 1
  · (simp only [List.getElem?_toArray, List.getElem?_cons_succ, List.getElem?_cons_zero]; rfl)
  · rfl
  · rfl
  · rfl
  try simp only [Act.put, List.setIfInBounds_toArray, List.set_cons_zero, List.set_cons_succ]
  clear hHeld
  apply one_rest (F := (fun g h W => Same w1 W ∧ IsB W g a ∧ IsB W h b ∧ g ≠ h ∧ w1.heap.size ≤ g ∧ w1.heap.size ≤ h))
  case main =>
    intro REST
    have hkd : Same w1 w1.drew := (Keep.refl _ _).drew
    generalize w1.drew = wd at *
    refine wpAnyH_ready (rs := [1, 4, 5]) (by kernel_rfl) (by simp) ?_
    refine AllReadyH.cons rfl (fun K hK => ?_) (AllReadyH.cons rfl (fun K hK => ?_) (AllReadyH.cons rfl (fun K hK => ?_) AllReadyH.nil))
    · go_simp
      refine (HU.out wd hkd).mono ?_
      rintro e wo1 ⟨rfl, hk1⟩
      have hK1 : Same w1 wo1 := ((hkd).then hk1)
      refine hK.out _ _ (HS.out _ hK1) (fun hHeld1 => ?_)
      clear hK K
      try simp only [Act.put, List.setIfInBounds_toArray, List.set_cons_zero, List.set_cons_succ]
      refine wpAnyH_ready (rs := [3, 4, 5]) (by kernel_rfl) (by simp) ?_
      refine AllReadyH.cons rfl (fun K hK => ?_) (AllReadyH.cons rfl (fun K hK => ?_) (AllReadyH.cons rfl (fun K hK => ?_) AllReadyH.nil))
      · go_simp
        refine (HV.out wo1 hK1).mono ?_
        rintro e wo2 ⟨rfl, hk2⟩
        have hK2 : Same w1 wo2 := ((hK1).then hk2)
        refine hK.out _ _ (HS.out _ hK2) (fun hHeld2 => ?_)
        clear hK K
        try simp only [Act.put, List.setIfInBounds_toArray, List.set_cons_zero, List.set_cons_succ]
        refine wpAnyH_ready (rs := [4, 5]) (by kernel_rfl) (by simp) ?_
        refine AllReadyH.cons rfl (fun K hK => ?_) (AllReadyH.cons rfl (fun K hK => ?_) AllReadyH.nil)
        · go_simp
          have hb3 := IsB.newL (wo2)
          have hk3 : Same (wo2) ((wo2).alloc (.cells #[.int .u64 0, .int .u64 0, .int .u64 0, .int .u64 0, .int .u64 0, .int .u64 0, .int .u64 0, .int .u64 0, .int .u64 0, .int .u64 0, .int .u64 0, .int .u64 0, .int .u64 0, .int .u64 0, .int .u64 0, .int .u64 0, .int .u64 0, .int .u64 0, .int .u64 0, .int .u64 0, .int .u64 0, .int .u64 0, .int .u64 0, .int .u64 0, .int .u64 0, .int .u64 0, .int .u64 0, .int .u64 0, .int .u64 0, .int .u64 0, .int .u64 0, .int .u64 0, .int .u64 0, .int .u64 0, .int .u64 0, .int .u64 0, .int .u64 0, .int .u64 0, .int .u64 0, .int .u64 0, .int .u64 0, .int .u64 0, .int .u64 0, .int .u64 0, .int .u64 0, .int .u64 0, .int .u64 0, .int .u64 0, .int .u64 0, .int .u64 0, .int .u64 0, .int .u64 0, .int .u64 0, .int .u64 0, .int .u64 0, .int .u64 0, .int .u64 0, .int .u64 0, .int .u64 0, .int .u64 0, .int .u64 0, .int .u64 0, .int .u64 0, .int .u64 0] 72)) := (Keep.refl _ _).alloc _
          obtain ⟨g3, hg3⟩ : ∃ g, g = (wo2).heap.size := ⟨_, rfl⟩
          rw [← hg3] at hb3 ⊢
          have hlo3 : (wo2).heap.size ≤ g3 := by omega
          clear hg3
          generalize ((wo2).alloc (.cells #[.int .u64 0, .int .u64 0, .int .u64 0, .int .u64 0, .int .u64 0, .int .u64 0, .int .u64 0, .int .u64 0, .int .u64 0, .int .u64 0, .int .u64 0, .int .u64 0, .int .u64 0, .int .u64 0, .int .u64 0, .int .u64 0, .int .u64 0, .int .u64 0, .int .u64 0, .int .u64 0, .int .u64 0, .int .u64 0, .int .u64 0, .int .u64 0, .int .u64 0, .int .u64 0, .int .u64 0, .int .u64 0, .int .u64 0, .int .u64 0, .int .u64 0, .int .u64 0, .int .u64 0, .int .u64 0, .int .u64 0, .int .u64 0, .int .u64 0, .int .u64 0, .int .u64 0, .int .u64 0, .int .u64 0, .int .u64 0, .int .u64 0, .int .u64 0, .int .u64 0, .int .u64 0, .int .u64 0, .int .u64 0, .int .u64 0, .int .u64 0, .int .u64 0, .int .u64 0, .int .u64 0, .int .u64 0, .int .u64 0, .int .u64 0, .int .u64 0, .int .u64 0, .int .u64 0, .int .u64 0, .int .u64 0, .int .u64 0, .int .u64 0, .int .u64 0] 72)) = wo3 at *
          have hK3 : Same w1 wo3 := ((hK2).then hk3)
          have hlow_g3 : w1.heap.size ≤ g3 := Nat.le_trans (hK2).size hlo3
          have hB3_4 := hb3
          refine hK.out _ _ (HS.out _ hK3) (fun hHeld3 => ?_)
          clear hK K
          try simp only [Act.put, List.setIfInBounds_toArray, List.set_cons_zero, List.set_cons_succ]
          refine wpAnyH_ready (rs := [5]) (by kernel_rfl) (by simp) ?_
          refine AllReadyH.cons rfl (fun K hK => ?_) AllReadyH.nil
          go_simp
          have hb4 := IsB.newL (wo3)
          have hk4 : Same (wo3) ((wo3).alloc (.cells #[.int .u64 0, .int .u64 0, .int .u64 0, .int .u64 0, .int .u64 0, .int .u64 0, .int .u64 0, .int .u64 0, .int .u64 0, .int .u64 0, .int .u64 0, .int .u64 0, .int .u64 0, .int .u64 0, .int .u64 0, .int .u64 0, .int .u64 0, .int .u64 0, .int .u64 0, .int .u64 0, .int .u64 0, .int .u64 0, .int .u64 0, .int .u64 0, .int .u64 0, .int .u64 0, .int .u64 0, .int .u64 0, .int .u64 0, .int .u64 0, .int .u64 0, .int .u64 0, .int .u64 0, .int .u64 0, .int .u64 0, .int .u64 0, .int .u64 0, .int .u64 0, .int .u64 0, .int .u64 0, .int .u64 0, .int .u64 0, .int .u64 0, .int .u64 0, .int .u64 0, .int .u64 0, .int .u64 0, .int .u64 0, .int .u64 0, .int .u64 0, .int .u64 0, .int .u64 0, .int .u64 0, .int .u64 0, .int .u64 0, .int .u64 0, .int .u64 0, .int .u64 0, .int .u64 0, .int .u64 0, .int .u64 0, .int .u64 0, .int .u64 0, .int .u64 0] 72)) := (Keep.refl _ _).alloc _
          obtain ⟨g4, hg4⟩ : ∃ g, g = (wo3).heap.size := ⟨_, rfl⟩
          rw [← hg4] at hb4 ⊢
          have hlo4 : (wo3).heap.size ≤ g4 := by omega
          clear hg4
          generalize ((wo3).alloc (.cells #[.int .u64 0, .int .u64 0, .int .u64 0, .int .u64 0, .int .u64 0, .int .u64 0, .int .u64 0, .int .u64 0, .int .u64 0, .int .u64 0, .int .u64 0, .int .u64 0, .int .u64 0, .int .u64 0, .int .u64 0, .int .u64 0, .int .u64 0, .int .u64 0, .int .u64 0, .int .u64 0, .int .u64 0, .int .u64 0, .int .u64 0, .int .u64 0, .int .u64 0, .int .u64 0, .int .u64 0, .int .u64 0, .int .u64 0, .int .u64 0, .int .u64 0, .int .u64 0, .int .u64 0, .int .u64 0, .int .u64 0, .int .u64 0, .int .u64 0, .int .u64 0, .int .u64 0, .int .u64 0, .int .u64 0, .int .u64 0, .int .u64 0, .int .u64 0, .int .u64 0, .int .u64 0, .int .u64 0, .int .u64 0, .int .u64 0, .int .u64 0, .int .u64 0, .int .u64 0, .int .u64 0, .int .u64 0, .int .u64 0, .int .u64 0, .int .u64 0, .int .u64 0, .int .u64 0, .int .u64 0, .int .u64 0, .int .u64 0, .int .u64 0, .int .u64 0] 72)) = wo4 at *
          have hK4 : Same w1 wo4 := ((hK3).then hk4)
          have hlow_g4 : w1.heap.size ≤ g4 := Nat.le_trans (hK3).size hlo4
          have hne_g3_g4 : g3 ≠ g4 := by have := Blk.lt (hB3_4); omega
          have hne_g4_g3 : g4 ≠ g3 := fun e => hne_g3_g4 e.symm
          have hB4_4 := (Blk.keep (hB3_4) hk4 (fun f => f))
          have hB4_5 := hb4
          refine hK.out _ _ (HS.out _ hK4) (fun hHeld4 => ?_)
          clear hK K
          try simp only [Act.put, List.setIfInBounds_toArray, List.set_cons_zero, List.set_cons_succ]
          refine wpAnyH_ready (rs := [6]) (by kernel_rfl) (by simp) ?_
          refine AllReadyH.cons rfl (fun K hK => ?_) AllReadyH.nil
          refine store_step rfl _ (.tmp 5) (.tmp 9) rfl (g3) ((wcells a).toArray) rfl rfl 72 _ (hB4_4) HSZ.out.1 HSZ.out.2.2.1 (one_toArray (wcells_one _)) ?_
          have hb5 := Blk.row (hB4_4) ((wcells a).toArray)
          have hk5 := Keep.row (wo4) (g3) ((wcells a).toArray)
          generalize ((wo4).setRow (g3) ((wcells a).toArray)) = wo5 at *
          have hK5 : Same w1 wo5 := ((hK4).trans hk5 (fun i hi e => by have e2 : i = g3 := e; have := hlow_g3; omega))
          have hB5_4 := hb5
          have hB5_5 := (Blk.keep (hB4_5) hk5 hne_g4_g3)
          refine hK.out _ _ (HS.out _ hK5) (fun hHeld5 => ?_)
          clear hK K
          try simp only [Act.put, List.setIfInBounds_toArray]
          refine wpAnyH_ready (rs := [7]) (by kernel_rfl) (by simp) ?_
          refine AllReadyH.cons rfl (fun K hK => ?_) AllReadyH.nil
          refine store_step rfl _ (.tmp 6) (.tmp 11) rfl (g4) ((wcells b).toArray) rfl rfl 72 _ (hB5_5) HSZ.out.2.1 HSZ.out.2.2.2 (one_toArray (wcells_one _)) ?_
          have hb6 := Blk.row (hB5_5) ((wcells b).toArray)
          have hk6 := Keep.row (wo5) (g4) ((wcells b).toArray)
          generalize ((wo5).setRow (g4) ((wcells b).toArray)) = wo6 at *
          have hK6 : Same w1 wo6 := ((hK5).trans hk6 (fun i hi e => by have e2 : i = g4 := e; have := hlow_g4; omega))
          have hB6_4 := (Blk.keep (hB5_4) hk6 hne_g3_g4)
          have hB6_5 := hb6
          refine hK.out _ _ (HS.out _ hK6) (fun hHeld6 => ?_)
          clear hK K
          try simp only [Act.put]
          refine wpAnyH_done (by kernel_rfl) ?_ _
          exact REST (g3) (g4) (wo6) ⟨hK6, hB6_4, hB6_5, hne_g3_g4, hlow_g3, hlow_g4⟩
        · go_simp
          have hb7 := IsB.newL (wo2)
          have hk7 : Same (wo2) ((wo2).alloc (.cells #[.int .u64 0, .int .u64 0, .int .u64 0, .int .u64 0, .int .u64 0, .int .u64 0, .int .u64 0, .int .u64 0, .int .u64 0, .int .u64 0, .int .u64 0, .int .u64 0, .int .u64 0, .int .u64 0, .int .u64 0, .int .u64 0, .int .u64 0, .int .u64 0, .int .u64 0, .int .u64 0, .int .u64 0, .int .u64 0, .int .u64 0, .int .u64 0, .int .u64 0, .int .u64 0, .int .u64 0, .int .u64 0, .int .u64 0, .int .u64 0, .int .u64 0, .int .u64 0, .int .u64 0, .int .u64 0, .int .u64 0, .int .u64 0, .int .u64 0, .int .u64 0, .int .u64 0, .int .u64 0, .int .u64 0, .int .u64 0, .int .u64 0, .int .u64 0, .int .u64 0, .int .u64 0, .int .u64 0, .int .u64 0, .int .u64 0, .int .u64 0, .int .u64 0, .int .u64 0, .int .u64 0, .int .u64 0, .int .u64 0, .int .u64 0, .int .u64 0, .int .u64 0, .int .u64 0, .int .u64 0, .int .u64 0, .int .u64 0, .int .u64 0, .int .u64 0] 72)) := (Keep.refl _ _).alloc _
          obtain ⟨g7, hg7⟩ : ∃ g, g = (wo2).heap.size := ⟨_, rfl⟩
          rw [← hg7] at hb7 ⊢
          have hlo7 : (wo2).heap.size ≤ g7 := by omega
          clear hg7
          generalize ((wo2).alloc (.cells #[.int .u64 0, .int .u64 0, .int .u64 0, .int .u64 0, .int .u64 0, .int .u64 0, .int .u64 0, .int .u64 0, .int .u64 0, .int .u64 0, .int .u64 0, .int .u64 0, .int .u64 0, .int .u64 0, .int .u64 0, .int .u64 0, .int .u64 0, .int .u64 0, .int .u64 0, .int .u64 0, .int .u64 0, .int .u64 0, .int .u64 0, .int .u64 0, .int .u64 0, .int .u64 0, .int .u64 0, .int .u64 0, .int .u64 0, .int .u64 0, .int .u64 0, .int .u64 0, .int .u64 0, .int .u64 0, .int .u64 0, .int .u64 0, .int .u64 0, .int .u64 0, .int .u64 0, .int .u64 0, .int .u64 0, .int .u64 0, .int .u64 0, .int .u64 0, .int .u64 0, .int .u64 0, .int .u64 0, .int .u64 0, .int .u64 0, .int .u64 0, .int .u64 0, .int .u64 0, .int .u64 0, .int .u64 0, .int .u64 0, .int .u64 0, .int .u64 0, .int .u64 0, .int .u64 0, .int .u64 0, .int .u64 0, .int .u64 0, .int .u64 0, .int .u64 0] 72)) = wo7 at *
          have hK7 : Same w1 wo7 := ((hK2).then hk7)
          have hlow_g7 : w1.heap.size ≤ g7 := Nat.le_trans (hK2).size hlo7
          have hB7_5 := hb7
          refine hK.out _ _ (HS.out _ hK7) (fun hHeld7 => ?_)
          clear hK K
          try simp only [Act.put, List.setIfInBounds_toArray, List.set_cons_zero, List.set_cons_succ]
          refine wpAnyH_ready (rs := [4]) (by kernel_rfl) (by simp) ?_
          refine AllReadyH.cons rfl (fun K hK => ?_) AllReadyH.nil
          go_simp
          have hb8 := IsB.newL (wo7)
          have hk8 : Same (wo7) ((wo7).alloc (.cells #[.int .u64 0, .int .u64 0, .int .u64 0, .int .u64 0, .int .u64 0, .int .u64 0, .int .u64 0, .int .u64 0, .int .u64 0, .int .u64 0, .int .u64 0, .int .u64 0, .int .u64 0, .int .u64 0, .int .u64 0, .int .u64 0, .int .u64 0, .int .u64 0, .int .u64 0, .int .u64 0, .int .u64 0, .int .u64 0, .int .u64 0, .int .u64 0, .int .u64 0, .int .u64 0, .int .u64 0, .int .u64 0, .int .u64 0, .int .u64 0, .int .u64 0, .int .u64 0, .int .u64 0, .int .u64 0, .int .u64 0, .int .u64 0, .int .u64 0, .int .u64 0, .int .u64 0, .int .u64 0, .int .u64 0, .int .u64 0, .int .u64 0, .int .u64 0, .int .u64 0, .int .u64 0, .int .u64 0, .int .u64 0, .int .u64 0, .int .u64 0, .int .u64 0, .int .u64 0, .int .u64 0, .int .u64 0, .int .u64 0, .int .u64 0, .int .u64 0, .int .u64 0, .int .u64 0, .int .u64 0, .int .u64 0, .int .u64 0, .int .u64 0, .int .u64 0] 72)) := (Keep.refl _ _).alloc _
          obtain ⟨g8, hg8⟩ : ∃ g, g = (wo7).heap.size := ⟨_, rfl⟩
          rw [← hg8] at hb8 ⊢
          have hlo8 : (wo7).heap.size ≤ g8 := by omega
          clear hg8
          generalize ((wo7).alloc (.cells #[.int .u64 0, .int .u64 0, .int .u64 0, .int .u64 0, .int .u64 0, .int .u64 0, .int .u64 0, .int .u64 0, .int .u64 0, .int .u64 0, .int .u64 0, .int .u64 0, .int .u64 0, .int .u64 0, .int .u64 0, .int .u64 0, .int .u64 0, .int .u64 0, .int .u64 0, .int .u64 0, .int .u64 0, .int .u64 0, .int .u64 0, .int .u64 0, .int .u64 0, .int .u64 0, .int .u64 0, .int .u64 0, .int .u64 0, .int .u64 0, .int .u64 0, .int .u64 0, .int .u64 0, .int .u64 0, .int .u64 0, .int .u64 0, .int .u64 0, .int .u64 0, .int .u64 0, .int .u64 0, .int .u64 0, .int .u64 0, .int .u64 0, .int .u64 0, .int .u64 0, .int .u64 0, .int .u64 0, .int .u64 0, .int .u64 0, .int .u64 0, .int .u64 0, .int .u64 0, .int .u64 0, .int .u64 0, .int .u64 0, .int .u64 0, .int .u64 0, .int .u64 0, .int .u64 0, .int .u64 0, .int .u64 0, .int .u64 0, .int .u64 0, .int .u64 0] 72)) = wo8 at *
          have hK8 : Same w1 wo8 := ((hK7).then hk8)
          have hlow_g8 : w1.heap.size ≤ g8 := Nat.le_trans (hK7).size hlo8
          have hne_g7_g8 : g7 ≠ g8 := by have := Blk.lt (hB7_5); omega
          have hne_g8_g7 : g8 ≠ g7 := fun e => hne_g7_g8 e.symm
          have hB8_5 := (Blk.keep (hB7_5) hk8 (fun f => f))
          have hB8_4 := hb8
          refine hK.out _ _ (HS.out _ hK8) (fun hHeld8 => ?_)
          clear hK K
          try simp only [Act.put, List.setIfInBounds_toArray, List.set_cons_zero, List.set_cons_succ]
          refine wpAnyH_ready (rs := [6]) (by kernel_rfl) (by simp) ?_
          refine AllReadyH.cons rfl (fun K hK => ?_) AllReadyH.nil
          refine store_step rfl _ (.tmp 5) (.tmp 9) rfl (g8) ((wcells a).toArray) rfl rfl 72 _ (hB8_4) HSZ.out.1 HSZ.out.2.2.1 (one_toArray (wcells_one _)) ?_
          have hb9 := Blk.row (hB8_4) ((wcells a).toArray)
          have hk9 := Keep.row (wo8) (g8) ((wcells a).toArray)
          generalize ((wo8).setRow (g8) ((wcells a).toArray)) = wo9 at *
          have hK9 : Same w1 wo9 := ((hK8).trans hk9 (fun i hi e => by have e2 : i = g8 := e; have := hlow_g8; omega))
          have hB9_5 := (Blk.keep (hB8_5) hk9 hne_g7_g8)
          have hB9_4 := hb9
          refine hK.out _ _ (HS.out _ hK9) (fun hHeld9 => ?_)
          clear hK K
          try simp only [Act.put, List.setIfInBounds_toArray]
          refine wpAnyH_ready (rs := [7]) (by kernel_rfl) (by simp) ?_
          refine AllReadyH.cons rfl (fun K hK => ?_) AllReadyH.nil
          refine store_step rfl _ (.tmp 6) (.tmp 11) rfl (g7) ((wcells b).toArray) rfl rfl 72 _ (hB9_5) HSZ.out.2.1 HSZ.out.2.2.2 (one_toArray (wcells_one _)) ?_
          have hb10 := Blk.row (hB9_5) ((wcells b).toArray)
          have hk10 := Keep.row (wo9) (g7) ((wcells b).toArray)
          generalize ((wo9).setRow (g7) ((wcells b).toArray)) = wo10 at *
          have hK10 : Same w1 wo10 := ((hK9).trans hk10 (fun i hi e => by have e2 : i = g7 := e; have := hlow_g7; omega))
          have hB10_5 := hb10
          have hB10_4 := (Blk.keep (hB9_4) hk10 hne_g8_g7)
          refine hK.out _ _ (HS.out _ hK10) (fun hHeld10 => ?_)
          clear hK K
          try simp only [Act.put]
          refine wpAnyH_done (by kernel_rfl) ?_ _
          exact REST (g8) (g7) (wo10) ⟨hK10, hB10_4, hB10_5, hne_g8_g7, hlow_g8, hlow_g7⟩
      · go_simp
        have hb11 := IsB.newL (wo1)
        have hk11 : Same (wo1) ((wo1).alloc (.cells #[.int .u64 0, .int .u64 0, .int .u64 0, .int .u64 0, .int .u64 0, .int .u64 0, .int .u64 0, .int .u64 0, .int .u64 0, .int .u64 0, .int .u64 0, .int .u64 0, .int .u64 0, .int .u64 0, .int .u64 0, .int .u64 0, .int .u64 0, .int .u64 0, .int .u64 0, .int .u64 0, .int .u64 0, .int .u64 0, .int .u64 0, .int .u64 0, .int .u64 0, .int .u64 0, .int .u64 0, .int .u64 0, .int .u64 0, .int .u64 0, .int .u64 0, .int .u64 0, .int .u64 0, .int .u64 0, .int .u64 0, .int .u64 0, .int .u64 0, .int .u64 0, .int .u64 0, .int .u64 0, .int .u64 0, .int .u64 0, .int .u64 0, .int .u64 0, .int .u64 0, .int .u64 0, .int .u64 0, .int .u64 0, .int .u64 0, .int .u64 0, .int .u64 0, .int .u64 0, .int .u64 0, .int .u64 0, .int .u64 0, .int .u64 0, .int .u64 0, .int .u64 0, .int .u64 0, .int .u64 0, .int .u64 0, .int .u64 0, .int .u64 0, .int .u64 0] 72)) := (Keep.refl _ _).alloc _
        obtain ⟨g11, hg11⟩ : ∃ g, g = (wo1).heap.size := ⟨_, rfl⟩
        rw [← hg11] at hb11 ⊢
        have hlo11 : (wo1).heap.size ≤ g11 := by omega
        clear hg11
        generalize ((wo1).alloc (.cells #[.int .u64 0, .int .u64 0, .int .u64 0, .int .u64 0, .int .u64 0, .int .u64 0, .int .u64 0, .int .u64 0, .int .u64 0, .int .u64 0, .int .u64 0, .int .u64 0, .int .u64 0, .int .u64 0, .int .u64 0, .int .u64 0, .int .u64 0, .int .u64 0, .int .u64 0, .int .u64 0, .int .u64 0, .int .u64 0, .int .u64 0, .int .u64 0, .int .u64 0, .int .u64 0, .int .u64 0, .int .u64 0, .int .u64 0, .int .u64 0, .int .u64 0, .int .u64 0, .int .u64 0, .int .u64 0, .int .u64 0, .int .u64 0, .int .u64 0, .int .u64 0, .int .u64 0, .int .u64 0, .int .u64 0, .int .u64 0, .int .u64 0, .int .u64 0, .int .u64 0, .int .u64 0, .int .u64 0, .int .u64 0, .int .u64 0, .int .u64 0, .int .u64 0, .int .u64 0, .int .u64 0, .int .u64 0, .int .u64 0, .int .u64 0, .int .u64 0, .int .u64 0, .int .u64 0, .int .u64 0, .int .u64 0, .int .u64 0, .int .u64 0, .int .u64 0] 72)) = wo11 at *
        have hK11 : Same w1 wo11 := ((hK1).then hk11)
        have hlow_g11 : w1.heap.size ≤ g11 := Nat.le_trans (hK1).size hlo11
        have hB11_4 := hb11
        refine hK.out _ _ (HS.out _ hK11) (fun hHeld11 => ?_)
        clear hK K
        try simp only [Act.put, List.setIfInBounds_toArray, List.set_cons_zero, List.set_cons_succ]
        refine wpAnyH_ready (rs := [3, 5]) (by kernel_rfl) (by simp) ?_
        refine AllReadyH.cons rfl (fun K hK => ?_) (AllReadyH.cons rfl (fun K hK => ?_) AllReadyH.nil)
        · go_simp
          refine (HV.out wo11 hK11).mono ?_
          rintro e wo12 ⟨rfl, hk12⟩
          have hK12 : Same w1 wo12 := ((hK11).then hk12)
          have hB12_4 := (Blk.keep (hB11_4) hk12 (fun f => f))
          refine hK.out _ _ (HS.out _ hK12) (fun hHeld12 => ?_)
          clear hK K
          try simp only [Act.put, List.setIfInBounds_toArray, List.set_cons_zero, List.set_cons_succ]
          refine wpAnyH_ready (rs := [5]) (by kernel_rfl) (by simp) ?_
          refine AllReadyH.cons rfl (fun K hK => ?_) AllReadyH.nil
          go_simp
          have hb13 := IsB.newL (wo12)
          have hk13 : Same (wo12) ((wo12).alloc (.cells #[.int .u64 0, .int .u64 0, .int .u64 0, .int .u64 0, .int .u64 0, .int .u64 0, .int .u64 0, .int .u64 0, .int .u64 0, .int .u64 0, .int .u64 0, .int .u64 0, .int .u64 0, .int .u64 0, .int .u64 0, .int .u64 0, .int .u64 0, .int .u64 0, .int .u64 0, .int .u64 0, .int .u64 0, .int .u64 0, .int .u64 0, .int .u64 0, .int .u64 0, .int .u64 0, .int .u64 0, .int .u64 0, .int .u64 0, .int .u64 0, .int .u64 0, .int .u64 0, .int .u64 0, .int .u64 0, .int .u64 0, .int .u64 0, .int .u64 0, .int .u64 0, .int .u64 0, .int .u64 0, .int .u64 0, .int .u64 0, .int .u64 0, .int .u64 0, .int .u64 0, .int .u64 0, .int .u64 0, .int .u64 0, .int .u64 0, .int .u64 0, .int .u64 0, .int .u64 0, .int .u64 0, .int .u64 0, .int .u64 0, .int .u64 0, .int .u64 0, .int .u64 0, .int .u64 0, .int .u64 0, .int .u64 0, .int .u64 0, .int .u64 0, .int .u64 0] 72)) := (Keep.refl _ _).alloc _
          obtain ⟨g13, hg13⟩ : ∃ g, g = (wo12).heap.size := ⟨_, rfl⟩
          rw [← hg13] at hb13 ⊢
          have hlo13 : (wo12).heap.size ≤ g13 := by omega
          clear hg13
          generalize ((wo12).alloc (.cells #[.int .u64 0, .int .u64 0, .int .u64 0, .int .u64 0, .int .u64 0, .int .u64 0, .int .u64 0, .int .u64 0, .int .u64 0, .int .u64 0, .int .u64 0, .int .u64 0, .int .u64 0, .int .u64 0, .int .u64 0, .int .u64 0, .int .u64 0, .int .u64 0, .int .u64 0, .int .u64 0, .int .u64 0, .int .u64 0, .int .u64 0, .int .u64 0, .int .u64 0, .int .u64 0, .int .u64 0, .int .u64 0, .int .u64 0, .int .u64 0, .int .u64 0, .int .u64 0, .int .u64 0, .int .u64 0, .int .u64 0, .int .u64 0, .int .u64 0, .int .u64 0, .int .u64 0, .int .u64 0, .int .u64 0, .int .u64 0, .int .u64 0, .int .u64 0, .int .u64 0, .int .u64 0, .int .u64 0, .int .u64 0, .int .u64 0, .int .u64 0, .int .u64 0, .int .u64 0, .int .u64 0, .int .u64 0, .int .u64 0, .int .u64 0, .int .u64 0, .int .u64 0, .int .u64 0, .int .u64 0, .int .u64 0, .int .u64 0, .int .u64 0, .int .u64 0] 72)) = wo13 at *
          have hK13 : Same w1 wo13 := ((hK12).then hk13)
          have hlow_g13 : w1.heap.size ≤ g13 := Nat.le_trans (hK12).size hlo13
          have hne_g11_g13 : g11 ≠ g13 := by have := Blk.lt (hB12_4); omega
          have hne_g13_g11 : g13 ≠ g11 := fun e => hne_g11_g13 e.symm
          have hB13_4 := (Blk.keep (hB12_4) hk13 (fun f => f))
          have hB13_5 := hb13
          refine hK.out _ _ (HS.out _ hK13) (fun hHeld13 => ?_)
          clear hK K
          try simp only [Act.put, List.setIfInBounds_toArray, List.set_cons_zero, List.set_cons_succ]
          refine wpAnyH_ready (rs := [6]) (by kernel_rfl) (by simp) ?_
          refine AllReadyH.cons rfl (fun K hK => ?_) AllReadyH.nil
          refine store_step rfl _ (.tmp 5) (.tmp 9) rfl (g11) ((wcells a).toArray) rfl rfl 72 _ (hB13_4) HSZ.out.1 HSZ.out.2.2.1 (one_toArray (wcells_one _)) ?_
          have hb14 := Blk.row (hB13_4) ((wcells a).toArray)
          have hk14 := Keep.row (wo13) (g11) ((wcells a).toArray)
          generalize ((wo13).setRow (g11) ((wcells a).toArray)) = wo14 at *
          have hK14 : Same w1 wo14 := ((hK13).trans hk14 (fun i hi e => by have e2 : i = g11 := e; have := hlow_g11; omega))
          have hB14_4 := hb14
          have hB14_5 := (Blk.keep (hB13_5) hk14 hne_g13_g11)
          refine hK.out _ _ (HS.out _ hK14) (fun hHeld14 => ?_)
          clear hK K
          try simp only [Act.put, List.setIfInBounds_toArray]
          refine wpAnyH_ready (rs := [7]) (by kernel_rfl) (by simp) ?_
          refine AllReadyH.cons rfl (fun K hK => ?_) AllReadyH.nil
          refine store_step rfl _ (.tmp 6) (.tmp 11) rfl (g13) ((wcells b).toArray) rfl rfl 72 _ (hB14_5) HSZ.out.2.1 HSZ.out.2.2.2 (one_toArray (wcells_one _)) ?_
          have hb15 := Blk.row (hB14_5) ((wcells b).toArray)
          have hk15 := Keep.row (wo14) (g13) ((wcells b).toArray)
          generalize ((wo14).setRow (g13) ((wcells b).toArray)) = wo15 at *
          have hK15 : Same w1 wo15 := ((hK14).trans hk15 (fun i hi e => by have e2 : i = g13 := e; have := hlow_g13; omega))
          have hB15_4 := (Blk.keep (hB14_4) hk15 hne_g11_g13)
          have hB15_5 := hb15
          refine hK.out _ _ (HS.out _ hK15) (fun hHeld15 => ?_)
          clear hK K
          try simp only [Act.put]
          refine wpAnyH_done (by kernel_rfl) ?_ _
          exact REST (g11) (g13) (wo15) ⟨hK15, hB15_4, hB15_5, hne_g11_g13, hlow_g11, hlow_g13⟩
        · go_simp
          have hb16 := IsB.newL (wo11)
          have hk16 : Same (wo11) ((wo11).alloc (.cells #[.int .u64 0, .int .u64 0, .int .u64 0, .int .u64 0, .int .u64 0, .int .u64 0, .int .u64 0, .int .u64 0, .int .u64 0, .int .u64 0, .int .u64 0, .int .u64 0, .int .u64 0, .int .u64 0, .int .u64 0, .int .u64 0, .int .u64 0, .int .u64 0, .int .u64 0, .int .u64 0, .int .u64 0, .int .u64 0, .int .u64 0, .int .u64 0, .int .u64 0, .int .u64 0, .int .u64 0, .int .u64 0, .int .u64 0, .int .u64 0, .int .u64 0, .int .u64 0, .int .u64 0, .int .u64 0, .int .u64 0, .int .u64 0, .int .u64 0, .int .u64 0, .int .u64 0, .int .u64 0, .int .u64 0, .int .u64 0, .int .u64 0, .int .u64 0, .int .u64 0, .int .u64 0, .int .u64 0, .int .u64 0, .int .u64 0, .int .u64 0, .int .u64 0, .int .u64 0, .int .u64 0, .int .u64 0, .int .u64 0, .int .u64 0, .int .u64 0, .int .u64 0, .int .u64 0, .int .u64 0, .int .u64 0, .int .u64 0, .int .u64 0, .int .u64 0] 72)) := (Keep.refl _ _).alloc _
          obtain ⟨g16, hg16⟩ : ∃ g, g = (wo11).heap.size := ⟨_, rfl⟩
          rw [← hg16] at hb16 ⊢
          have hlo16 : (wo11).heap.size ≤ g16 := by omega
          clear hg16
          generalize ((wo11).alloc (.cells #[.int .u64 0, .int .u64 0, .int .u64 0, .int .u64 0, .int .u64 0, .int .u64 0, .int .u64 0, .int .u64 0, .int .u64 0, .int .u64 0, .int .u64 0, .int .u64 0, .int .u64 0, .int .u64 0, .int .u64 0, .int .u64 0, .int .u64 0, .int .u64 0, .int .u64 0, .int .u64 0, .int .u64 0, .int .u64 0, .int .u64 0, .int .u64 0, .int .u64 0, .int .u64 0, .int .u64 0, .int .u64 0, .int .u64 0, .int .u64 0, .int .u64 0, .int .u64 0, .int .u64 0, .int .u64 0, .int .u64 0, .int .u64 0, .int .u64 0, .int .u64 0, .int .u64 0, .int .u64 0, .int .u64 0, .int .u64 0, .int .u64 0, .int .u64 0, .int .u64 0, .int .u64 0, .int .u64 0, .int .u64 0, .int .u64 0, .int .u64 0, .int .u64 0, .int .u64 0, .int .u64 0, .int .u64 0, .int .u64 0, .int .u64 0, .int .u64 0, .int .u64 0, .int .u64 0, .int .u64 0, .int .u64 0, .int .u64 0, .int .u64 0, .int .u64 0] 72)) = wo16 at *
          have hK16 : Same w1 wo16 := ((hK11).then hk16)
          have hlow_g16 : w1.heap.size ≤ g16 := Nat.le_trans (hK11).size hlo16
          have hne_g11_g16 : g11 ≠ g16 := by have := Blk.lt (hB11_4); omega
          have hne_g16_g11 : g16 ≠ g11 := fun e => hne_g11_g16 e.symm
          have hB16_4 := (Blk.keep (hB11_4) hk16 (fun f => f))
          have hB16_5 := hb16
          refine hK.out _ _ (HS.out _ hK16) (fun hHeld16 => ?_)
          clear hK K
          try simp only [Act.put, List.setIfInBounds_toArray, List.set_cons_zero, List.set_cons_succ]
          refine wpAnyH_ready (rs := [3]) (by kernel_rfl) (by simp) ?_
          refine AllReadyH.cons rfl (fun K hK => ?_) AllReadyH.nil
          go_simp
          refine (HV.out wo16 hK16).mono ?_
          rintro e wo17 ⟨rfl, hk17⟩
          have hK17 : Same w1 wo17 := ((hK16).then hk17)
          have hB17_4 := (Blk.keep (hB16_4) hk17 (fun f => f))
          have hB17_5 := (Blk.keep (hB16_5) hk17 (fun f => f))
          refine hK.out _ _ (HS.out _ hK17) (fun hHeld17 => ?_)
          clear hK K
          try simp only [Act.put, List.setIfInBounds_toArray, List.set_cons_zero, List.set_cons_succ]
          refine wpAnyH_ready (rs := [6]) (by kernel_rfl) (by simp) ?_
          refine AllReadyH.cons rfl (fun K hK => ?_) AllReadyH.nil
          refine store_step rfl _ (.tmp 5) (.tmp 9) rfl (g11) ((wcells a).toArray) rfl rfl 72 _ (hB17_4) HSZ.out.1 HSZ.out.2.2.1 (one_toArray (wcells_one _)) ?_
          have hb18 := Blk.row (hB17_4) ((wcells a).toArray)
          have hk18 := Keep.row (wo17) (g11) ((wcells a).toArray)
          generalize ((wo17).setRow (g11) ((wcells a).toArray)) = wo18 at *
          have hK18 : Same w1 wo18 := ((hK17).trans hk18 (fun i hi e => by have e2 : i = g11 := e; have := hlow_g11; omega))
          have hB18_4 := hb18
          have hB18_5 := (Blk.keep (hB17_5) hk18 hne_g16_g11)
          refine hK.out _ _ (HS.out _ hK18) (fun hHeld18 => ?_)
          clear hK K
          try simp only [Act.put, List.setIfInBounds_toArray]
          refine wpAnyH_ready (rs := [7]) (by kernel_rfl) (by simp) ?_
          refine AllReadyH.cons rfl (fun K hK => ?_) AllReadyH.nil
          refine store_step rfl _ (.tmp 6) (.tmp 11) rfl (g16) ((wcells b).toArray) rfl rfl 72 _ (hB18_5) HSZ.out.2.1 HSZ.out.2.2.2 (one_toArray (wcells_one _)) ?_
          have hb19 := Blk.row (hB18_5) ((wcells b).toArray)
          have hk19 := Keep.row (wo18) (g16) ((wcells b).toArray)
          generalize ((wo18).setRow (g16) ((wcells b).toArray)) = wo19 at *
          have hK19 : Same w1 wo19 := ((hK18).trans hk19 (fun i hi e => by have e2 : i = g16 := e; have := hlow_g16; omega))
          have hB19_4 := (Blk.keep (hB18_4) hk19 hne_g11_g16)
          have hB19_5 := hb19
          refine hK.out _ _ (HS.out _ hK19) (fun hHeld19 => ?_)
          clear hK K
          try simp only [Act.put]
          refine wpAnyH_done (by kernel_rfl) ?_ _
          exact REST (g11) (g16) (wo19) ⟨hK19, hB19_4, hB19_5, hne_g11_g16, hlow_g11, hlow_g16⟩
      · go_simp
        have hb20 := IsB.newL (wo1)
        have hk20 : Same (wo1) ((wo1).alloc (.cells #[.int .u64 0, .int .u64 0, .int .u64 0, .int .u64 0, .int .u64 0, .int .u64 0, .int .u64 0, .int .u64 0, .int .u64 0, .int .u64 0, .int .u64 0, .int .u64 0, .int .u64 0, .int .u64 0, .int .u64 0, .int .u64 0, .int .u64 0, .int .u64 0, .int .u64 0, .int .u64 0, .int .u64 0, .int .u64 0, .int .u64 0, .int .u64 0, .int .u64 0, .int .u64 0, .int .u64 0, .int .u64 0, .int .u64 0, .int .u64 0, .int .u64 0, .int .u64 0, .int .u64 0, .int .u64 0, .int .u64 0, .int .u64 0, .int .u64 0, .int .u64 0, .int .u64 0, .int .u64 0, .int .u64 0, .int .u64 0, .int .u64 0, .int .u64 0, .int .u64 0, .int .u64 0, .int .u64 0, .int .u64 0, .int .u64 0, .int .u64 0, .int .u64 0, .int .u64 0, .int .u64 0, .int .u64 0, .int .u64 0, .int .u64 0, .int .u64 0, .int .u64 0, .int .u64 0, .int .u64 0, .int .u64 0, .int .u64 0, .int .u64 0, .int .u64 0] 72)) := (Keep.refl _ _).alloc _
        obtain ⟨g20, hg20⟩ : ∃ g, g = (wo1).heap.size := ⟨_, rfl⟩
        rw [← hg20] at hb20 ⊢
        have hlo20 : (wo1).heap.size ≤ g20 := by omega
        clear hg20
        generalize ((wo1).alloc (.cells #[.int .u64 0, .int .u64 0, .int .u64 0, .int .u64 0, .int .u64 0, .int .u64 0, .int .u64 0, .int .u64 0, .int .u64 0, .int .u64 0, .int .u64 0, .int .u64 0, .int .u64 0, .int .u64 0, .int .u64 0, .int .u64 0, .int .u64 0, .int .u64 0, .int .u64 0, .int .u64 0, .int .u64 0, .int .u64 0, .int .u64 0, .int .u64 0, .int .u64 0, .int .u64 0, .int .u64 0, .int .u64 0, .int .u64 0, .int .u64 0, .int .u64 0, .int .u64 0, .int .u64 0, .int .u64 0, .int .u64 0, .int .u64 0, .int .u64 0, .int .u64 0, .int .u64 0, .int .u64 0, .int .u64 0, .int .u64 0, .int .u64 0, .int .u64 0, .int .u64 0, .int .u64 0, .int .u64 0, .int .u64 0, .int .u64 0, .int .u64 0, .int .u64 0, .int .u64 0, .int .u64 0, .int .u64 0, .int .u64 0, .int .u64 0, .int .u64 0, .int .u64 0, .int .u64 0, .int .u64 0, .int .u64 0, .int .u64 0, .int .u64 0, .int .u64 0] 72)) = wo20 at *
        have hK20 : Same w1 wo20 := ((hK1).then hk20)
        have hlow_g20 : w1.heap.size ≤ g20 := Nat.le_trans (hK1).size hlo20
        have hB20_5 := hb20
        refine hK.out _ _ (HS.out _ hK20) (fun hHeld20 => ?_)
        clear hK K
        try simp only [Act.put, List.setIfInBounds_toArray, List.set_cons_zero, List.set_cons_succ]
        refine wpAnyH_ready (rs := [3, 4]) (by kernel_rfl) (by simp) ?_
        refine AllReadyH.cons rfl (fun K hK => ?_) (AllReadyH.cons rfl (fun K hK => ?_) AllReadyH.nil)
        · go_simp
          refine (HV.out wo20 hK20).mono ?_
          rintro e wo21 ⟨rfl, hk21⟩
          have hK21 : Same w1 wo21 := ((hK20).then hk21)
          have hB21_5 := (Blk.keep (hB20_5) hk21 (fun f => f))
          refine hK.out _ _ (HS.out _ hK21) (fun hHeld21 => ?_)
          clear hK K
          try simp only [Act.put, List.setIfInBounds_toArray, List.set_cons_zero, List.set_cons_succ]
          refine wpAnyH_ready (rs := [4]) (by kernel_rfl) (by simp) ?_
          refine AllReadyH.cons rfl (fun K hK => ?_) AllReadyH.nil
          go_simp
          have hb22 := IsB.newL (wo21)
          have hk22 : Same (wo21) ((wo21).alloc (.cells #[.int .u64 0, .int .u64 0, .int .u64 0, .int .u64 0, .int .u64 0, .int .u64 0, .int .u64 0, .int .u64 0, .int .u64 0, .int .u64 0, .int .u64 0, .int .u64 0, .int .u64 0, .int .u64 0, .int .u64 0, .int .u64 0, .int .u64 0, .int .u64 0, .int .u64 0, .int .u64 0, .int .u64 0, .int .u64 0, .int .u64 0, .int .u64 0, .int .u64 0, .int .u64 0, .int .u64 0, .int .u64 0, .int .u64 0, .int .u64 0, .int .u64 0, .int .u64 0, .int .u64 0, .int .u64 0, .int .u64 0, .int .u64 0, .int .u64 0, .int .u64 0, .int .u64 0, .int .u64 0, .int .u64 0, .int .u64 0, .int .u64 0, .int .u64 0, .int .u64 0, .int .u64 0, .int .u64 0, .int .u64 0, .int .u64 0, .int .u64 0, .int .u64 0, .int .u64 0, .int .u64 0, .int .u64 0, .int .u64 0, .int .u64 0, .int .u64 0, .int .u64 0, .int .u64 0, .int .u64 0, .int .u64 0, .int .u64 0, .int .u64 0, .int .u64 0] 72)) := (Keep.refl _ _).alloc _
          obtain ⟨g22, hg22⟩ : ∃ g, g = (wo21).heap.size := ⟨_, rfl⟩
          rw [← hg22] at hb22 ⊢
          have hlo22 : (wo21).heap.size ≤ g22 := by omega
          clear hg22
          generalize ((wo21).alloc (.cells #[.int .u64 0, .int .u64 0, .int .u64 0, .int .u64 0, .int .u64 0, .int .u64 0, .int .u64 0, .int .u64 0, .int .u64 0, .int .u64 0, .int .u64 0, .int .u64 0, .int .u64 0, .int .u64 0, .int .u64 0, .int .u64 0, .int .u64 0, .int .u64 0, .int .u64 0, .int .u64 0, .int .u64 0, .int .u64 0, .int .u64 0, .int .u64 0, .int .u64 0, .int .u64 0, .int .u64 0, .int .u64 0, .int .u64 0, .int .u64 0, .int .u64 0, .int .u64 0, .int .u64 0, .int .u64 0, .int .u64 0, .int .u64 0, .int .u64 0, .int .u64 0, .int .u64 0, .int .u64 0, .int .u64 0, .int .u64 0, .int .u64 0, .int .u64 0, .int .u64 0, .int .u64 0, .int .u64 0, .int .u64 0, .int .u64 0, .int .u64 0, .int .u64 0, .int .u64 0, .int .u64 0, .int .u64 0, .int .u64 0, .int .u64 0, .int .u64 0, .int .u64 0, .int .u64 0, .int .u64 0, .int .u64 0, .int .u64 0, .int .u64 0, .int .u64 0] 72)) = wo22 at *
          have hK22 : Same w1 wo22 := ((hK21).then hk22)
          have hlow_g22 : w1.heap.size ≤ g22 := Nat.le_trans (hK21).size hlo22
          have hne_g20_g22 : g20 ≠ g22 := by have := Blk.lt (hB21_5); omega
          have hne_g22_g20 : g22 ≠ g20 := fun e => hne_g20_g22 e.symm
          have hB22_5 := (Blk.keep (hB21_5) hk22 (fun f => f))
          have hB22_4 := hb22
          refine hK.out _ _ (HS.out _ hK22) (fun hHeld22 => ?_)
          clear hK K
          try simp only [Act.put, List.setIfInBounds_toArray, List.set_cons_zero, List.set_cons_succ]
          refine wpAnyH_ready (rs := [6]) (by kernel_rfl) (by simp) ?_
          refine AllReadyH.cons rfl (fun K hK => ?_) AllReadyH.nil
          refine store_step rfl _ (.tmp 5) (.tmp 9) rfl (g22) ((wcells a).toArray) rfl rfl 72 _ (hB22_4) HSZ.out.1 HSZ.out.2.2.1 (one_toArray (wcells_one _)) ?_
          have hb23 := Blk.row (hB22_4) ((wcells a).toArray)
          have hk23 := Keep.row (wo22) (g22) ((wcells a).toArray)
          generalize ((wo22).setRow (g22) ((wcells a).toArray)) = wo23 at *
          have hK23 : Same w1 wo23 := ((hK22).trans hk23 (fun i hi e => by have e2 : i = g22 := e; have := hlow_g22; omega))
          have hB23_5 := (Blk.keep (hB22_5) hk23 hne_g20_g22)
          have hB23_4 := hb23
          refine hK.out _ _ (HS.out _ hK23) (fun hHeld23 => ?_)
          clear hK K
          try simp only [Act.put, List.setIfInBounds_toArray]
          refine wpAnyH_ready (rs := [7]) (by kernel_rfl) (by simp) ?_
          refine AllReadyH.cons rfl (fun K hK => ?_) AllReadyH.nil
          refine store_step rfl _ (.tmp 6) (.tmp 11) rfl (g20) ((wcells b).toArray) rfl rfl 72 _ (hB23_5) HSZ.out.2.1 HSZ.out.2.2.2 (one_toArray (wcells_one _)) ?_
          have hb24 := Blk.row (hB23_5) ((wcells b).toArray)
          have hk24 := Keep.row (wo23) (g20) ((wcells b).toArray)
          generalize ((wo23).setRow (g20) ((wcells b).toArray)) = wo24 at *
          have hK24 : Same w1 wo24 := ((hK23).trans hk24 (fun i hi e => by have e2 : i = g20 := e; have := hlow_g20; omega))
          have hB24_5 := hb24
          have hB24_4 := (Blk.keep (hB23_4) hk24 hne_g22_g20)
          refine hK.out _ _ (HS.out _ hK24) (fun hHeld24 => ?_)
          clear hK K
          try simp only [Act.put]
          refine wpAnyH_done (by kernel_rfl) ?_ _
          exact REST (g22) (g20) (wo24) ⟨hK24, hB24_4, hB24_5, hne_g22_g20, hlow_g22, hlow_g20⟩
        · go_simp
          have hb25 := IsB.newL (wo20)
          have hk25 : Same (wo20) ((wo20).alloc (.cells #[.int .u64 0, .int .u64 0, .int .u64 0, .int .u64 0, .int .u64 0, .int .u64 0, .int .u64 0, .int .u64 0, .int .u64 0, .int .u64 0, .int .u64 0, .int .u64 0, .int .u64 0, .int .u64 0, .int .u64 0, .int .u64 0, .int .u64 0, .int .u64 0, .int .u64 0, .int .u64 0, .int .u64 0, .int .u64 0, .int .u64 0, .int .u64 0, .int .u64 0, .int .u64 0, .int .u64 0, .int .u64 0, .int .u64 0, .int .u64 0, .int .u64 0, .int .u64 0, .int .u64 0, .int .u64 0, .int .u64 0, .int .u64 0, .int .u64 0, .int .u64 0, .int .u64 0, .int .u64 0, .int .u64 0, .int .u64 0, .int .u64 0, .int .u64 0, .int .u64 0, .int .u64 0, .int .u64 0, .int .u64 0, .int .u64 0, .int .u64 0, .int .u64 0, .int .u64 0, .int .u64 0, .int .u64 0, .int .u64 0, .int .u64 0, .int .u64 0, .int .u64 0, .int .u64 0, .int .u64 0, .int .u64 0, .int .u64 0, .int .u64 0, .int .u64 0] 72)) := (Keep.refl _ _).alloc _
          obtain ⟨g25, hg25⟩ : ∃ g, g = (wo20).heap.size := ⟨_, rfl⟩
          rw [← hg25] at hb25 ⊢
          have hlo25 : (wo20).heap.size ≤ g25 := by omega
          clear hg25
          generalize ((wo20).alloc (.cells #[.int .u64 0, .int .u64 0, .int .u64 0, .int .u64 0, .int .u64 0, .int .u64 0, .int .u64 0, .int .u64 0, .int .u64 0, .int .u64 0, .int .u64 0, .int .u64 0, .int .u64 0, .int .u64 0, .int .u64 0, .int .u64 0, .int .u64 0, .int .u64 0, .int .u64 0, .int .u64 0, .int .u64 0, .int .u64 0, .int .u64 0, .int .u64 0, .int .u64 0, .int .u64 0, .int .u64 0, .int .u64 0, .int .u64 0, .int .u64 0, .int .u64 0, .int .u64 0, .int .u64 0, .int .u64 0, .int .u64 0, .int .u64 0, .int .u64 0, .int .u64 0, .int .u64 0, .int .u64 0, .int .u64 0, .int .u64 0, .int .u64 0, .int .u64 0, .int .u64 0, .int .u64 0, .int .u64 0, .int .u64 0, .int .u64 0, .int .u64 0, .int .u64 0, .int .u64 0, .int .u64 0, .int .u64 0, .int .u64 0, .int .u64 0, .int .u64 0, .int .u64 0, .int .u64 0, .int .u64 0, .int .u64 0, .int .u64 0, .int .u64 0, .int .u64 0] 72)) = wo25 at *
          have hK25 : Same w1 wo25 := ((hK20).then hk25)
          have hlow_g25 : w1.heap.size ≤ g25 := Nat.le_trans (hK20).size hlo25
          have hne_g20_g25 : g20 ≠ g25 := by have := Blk.lt (hB20_5); omega
          have hne_g25_g20 : g25 ≠ g20 := fun e => hne_g20_g25 e.symm
          have hB25_5 := (Blk.keep (hB20_5) hk25 (fun f => f))
          have hB25_4 := hb25
          refine hK.out _ _ (HS.out _ hK25) (fun hHeld25 => ?_)
          clear hK K
          try simp only [Act.put, List.setIfInBounds_toArray, List.set_cons_zero, List.set_cons_succ]
          refine wpAnyH_ready (rs := [3]) (by kernel_rfl) (by simp) ?_
          refine AllReadyH.cons rfl (fun K hK => ?_) AllReadyH.nil
          go_simp
          refine (HV.out wo25 hK25).mono ?_
          rintro e wo26 ⟨rfl, hk26⟩
          have hK26 : Same w1 wo26 := ((hK25).then hk26)
          have hB26_5 := (Blk.keep (hB25_5) hk26 (fun f => f))
          have hB26_4 := (Blk.keep (hB25_4) hk26 (fun f => f))
          refine hK.out _ _ (HS.out _ hK26) (fun hHeld26 => ?_)
          clear hK K
          try simp only [Act.put, List.setIfInBounds_toArray, List.set_cons_zero, List.set_cons_succ]
          refine wpAnyH_ready (rs := [6]) (by kernel_rfl) (by simp) ?_
          refine AllReadyH.cons rfl (fun K hK => ?_) AllReadyH.nil
          refine store_step rfl _ (.tmp 5) (.tmp 9) rfl (g25) ((wcells a).toArray) rfl rfl 72 _ (hB26_4) HSZ.out.1 HSZ.out.2.2.1 (one_toArray (wcells_one _)) ?_
          have hb27 := Blk.row (hB26_4) ((wcells a).toArray)
          have hk27 := Keep.row (wo26) (g25) ((wcells a).toArray)
          generalize ((wo26).setRow (g25) ((wcells a).toArray)) = wo27 at *
          have hK27 : Same w1 wo27 := ((hK26).trans hk27 (fun i hi e => by have e2 : i = g25 := e; have := hlow_g25; omega))
          have hB27_5 := (Blk.keep (hB26_5) hk27 hne_g20_g25)
          have hB27_4 := hb27
          refine hK.out _ _ (HS.out _ hK27) (fun hHeld27 => ?_)
          clear hK K
          try simp only [Act.put, List.setIfInBounds_toArray]
          refine wpAnyH_ready (rs := [7]) (by kernel_rfl) (by simp) ?_
          refine AllReadyH.cons rfl (fun K hK => ?_) AllReadyH.nil
          refine store_step rfl _ (.tmp 6) (.tmp 11) rfl (g20) ((wcells b).toArray) rfl rfl 72 _ (hB27_5) HSZ.out.2.1 HSZ.out.2.2.2 (one_toArray (wcells_one _)) ?_
          have hb28 := Blk.row (hB27_5) ((wcells b).toArray)
          have hk28 := Keep.row (wo27) (g20) ((wcells b).toArray)
          generalize ((wo27).setRow (g20) ((wcells b).toArray)) = wo28 at *
          have hK28 : Same w1 wo28 := ((hK27).trans hk28 (fun i hi e => by have e2 : i = g20 := e; have := hlow_g20; omega))
          have hB28_5 := hb28
          have hB28_4 := (Blk.keep (hB27_4) hk28 hne_g25_g20)
          refine hK.out _ _ (HS.out _ hK28) (fun hHeld28 => ?_)
          clear hK K
          try simp only [Act.put]
          refine wpAnyH_done (by kernel_rfl) ?_ _
          exact REST (g25) (g20) (wo28) ⟨hK28, hB28_4, hB28_5, hne_g25_g20, hlow_g25, hlow_g20⟩
    · go_simp
      have hb29 := IsB.newL (wd)
      have hk29 : Same (wd) ((wd).alloc (.cells #[.int .u64 0, .int .u64 0, .int .u64 0, .int .u64 0, .int .u64 0, .int .u64 0, .int .u64 0, .int .u64 0, .int .u64 0, .int .u64 0, .int .u64 0, .int .u64 0, .int .u64 0, .int .u64 0, .int .u64 0, .int .u64 0, .int .u64 0, .int .u64 0, .int .u64 0, .int .u64 0, .int .u64 0, .int .u64 0, .int .u64 0, .int .u64 0, .int .u64 0, .int .u64 0, .int .u64 0, .int .u64 0, .int .u64 0, .int .u64 0, .int .u64 0, .int .u64 0, .int .u64 0, .int .u64 0, .int .u64 0, .int .u64 0, .int .u64 0, .int .u64 0, .int .u64 0, .int .u64 0, .int .u64 0, .int .u64 0, .int .u64 0, .int .u64 0, .int .u64 0, .int .u64 0, .int .u64 0, .int .u64 0, .int .u64 0, .int .u64 0, .int .u64 0, .int .u64 0, .int .u64 0, .int .u64 0, .int .u64 0, .int .u64 0, .int .u64 0, .int .u64 0, .int .u64 0, .int .u64 0, .int .u64 0, .int .u64 0, .int .u64 0, .int .u64 0] 72)) := (Keep.refl _ _).alloc _
      obtain ⟨g29, hg29⟩ : ∃ g, g = (wd).heap.size := ⟨_, rfl⟩
      rw [← hg29] at hb29 ⊢
      have hlo29 : (wd).heap.size ≤ g29 := by omega
      clear hg29
      generalize ((wd).alloc (.cells #[.int .u64 0, .int .u64 0, .int .u64 0, .int .u64 0, .int .u64 0, .int .u64 0, .int .u64 0, .int .u64 0, .int .u64 0, .int .u64 0, .int .u64 0, .int .u64 0, .int .u64 0, .int .u64 0, .int .u64 0, .int .u64 0, .int .u64 0, .int .u64 0, .int .u64 0, .int .u64 0, .int .u64 0, .int .u64 0, .int .u64 0, .int .u64 0, .int .u64 0, .int .u64 0, .int .u64 0, .int .u64 0, .int .u64 0, .int .u64 0, .int .u64 0, .int .u64 0, .int .u64 0, .int .u64 0, .int .u64 0, .int .u64 0, .int .u64 0, .int .u64 0, .int .u64 0, .int .u64 0, .int .u64 0, .int .u64 0, .int .u64 0, .int .u64 0, .int .u64 0, .int .u64 0, .int .u64 0, .int .u64 0, .int .u64 0, .int .u64 0, .int .u64 0, .int .u64 0, .int .u64 0, .int .u64 0, .int .u64 0, .int .u64 0, .int .u64 0, .int .u64 0, .int .u64 0, .int .u64 0, .int .u64 0, .int .u64 0, .int .u64 0, .int .u64 0] 72)) = wo29 at *
      have hK29 : Same w1 wo29 := ((hkd).then hk29)
      have hlow_g29 : w1.heap.size ≤ g29 := Nat.le_trans (hkd).size hlo29
      have hB29_4 := hb29
      refine hK.out _ _ (HS.out _ hK29) (fun hHeld29 => ?_)
      clear hK K
      try simp only [Act.put, List.setIfInBounds_toArray, List.set_cons_zero, List.set_cons_succ]
      refine wpAnyH_ready (rs := [1, 5]) (by kernel_rfl) (by simp) ?_
      refine AllReadyH.cons rfl (fun K hK => ?_) (AllReadyH.cons rfl (fun K hK => ?_) AllReadyH.nil)
      · go_simp
        refine (HU.out wo29 hK29).mono ?_
        rintro e wo30 ⟨rfl, hk30⟩
        have hK30 : Same w1 wo30 := ((hK29).then hk30)
        have hB30_4 := (Blk.keep (hB29_4) hk30 (fun f => f))
        refine hK.out _ _ (HS.out _ hK30) (fun hHeld30 => ?_)
        clear hK K
        try simp only [Act.put, List.setIfInBounds_toArray, List.set_cons_zero, List.set_cons_succ]
        refine wpAnyH_ready (rs := [3, 5]) (by kernel_rfl) (by simp) ?_
        refine AllReadyH.cons rfl (fun K hK => ?_) (AllReadyH.cons rfl (fun K hK => ?_) AllReadyH.nil)
        · go_simp
          refine (HV.out wo30 hK30).mono ?_
          rintro e wo31 ⟨rfl, hk31⟩
          have hK31 : Same w1 wo31 := ((hK30).then hk31)
          have hB31_4 := (Blk.keep (hB30_4) hk31 (fun f => f))
          refine hK.out _ _ (HS.out _ hK31) (fun hHeld31 => ?_)
          clear hK K
          try simp only [Act.put, List.setIfInBounds_toArray, List.set_cons_zero, List.set_cons_succ]
          refine wpAnyH_ready (rs := [5]) (by kernel_rfl) (by simp) ?_
          refine AllReadyH.cons rfl (fun K hK => ?_) AllReadyH.nil
          go_simp
          have hb32 := IsB.newL (wo31)
          have hk32 : Same (wo31) ((wo31).alloc (.cells #[.int .u64 0, .int .u64 0, .int .u64 0, .int .u64 0, .int .u64 0, .int .u64 0, .int .u64 0, .int .u64 0, .int .u64 0, .int .u64 0, .int .u64 0, .int .u64 0, .int .u64 0, .int .u64 0, .int .u64 0, .int .u64 0, .int .u64 0, .int .u64 0, .int .u64 0, .int .u64 0, .int .u64 0, .int .u64 0, .int .u64 0, .int .u64 0, .int .u64 0, .int .u64 0, .int .u64 0, .int .u64 0, .int .u64 0, .int .u64 0, .int .u64 0, .int .u64 0, .int .u64 0, .int .u64 0, .int .u64 0, .int .u64 0, .int .u64 0, .int .u64 0, .int .u64 0, .int .u64 0, .int .u64 0, .int .u64 0, .int .u64 0, .int .u64 0, .int .u64 0, .int .u64 0, .int .u64 0, .int .u64 0, .int .u64 0, .int .u64 0, .int .u64 0, .int .u64 0, .int .u64 0, .int .u64 0, .int .u64 0, .int .u64 0, .int .u64 0, .int .u64 0, .int .u64 0, .int .u64 0, .int .u64 0, .int .u64 0, .int .u64 0, .int .u64 0] 72)) := (Keep.refl _ _).alloc _
          obtain ⟨g32, hg32⟩ : ∃ g, g = (wo31).heap.size := ⟨_, rfl⟩
          rw [← hg32] at hb32 ⊢
          have hlo32 : (wo31).heap.size ≤ g32 := by omega
          clear hg32
          generalize ((wo31).alloc (.cells #[.int .u64 0, .int .u64 0, .int .u64 0, .int .u64 0, .int .u64 0, .int .u64 0, .int .u64 0, .int .u64 0, .int .u64 0, .int .u64 0, .int .u64 0, .int .u64 0, .int .u64 0, .int .u64 0, .int .u64 0, .int .u64 0, .int .u64 0, .int .u64 0, .int .u64 0, .int .u64 0, .int .u64 0, .int .u64 0, .int .u64 0, .int .u64 0, .int .u64 0, .int .u64 0, .int .u64 0, .int .u64 0, .int .u64 0, .int .u64 0, .int .u64 0, .int .u64 0, .int .u64 0, .int .u64 0, .int .u64 0, .int .u64 0, .int .u64 0, .int .u64 0, .int .u64 0, .int .u64 0, .int .u64 0, .int .u64 0, .int .u64 0, .int .u64 0, .int .u64 0, .int .u64 0, .int .u64 0, .int .u64 0, .int .u64 0, .int .u64 0, .int .u64 0, .int .u64 0, .int .u64 0, .int .u64 0, .int .u64 0, .int .u64 0, .int .u64 0, .int .u64 0, .int .u64 0, .int .u64 0, .int .u64 0, .int .u64 0, .int .u64 0, .int .u64 0] 72)) = wo32 at *
          have hK32 : Same w1 wo32 := ((hK31).then hk32)
          have hlow_g32 : w1.heap.size ≤ g32 := Nat.le_trans (hK31).size hlo32
          have hne_g29_g32 : g29 ≠ g32 := by have := Blk.lt (hB31_4); omega
          have hne_g32_g29 : g32 ≠ g29 := fun e => hne_g29_g32 e.symm
          have hB32_4 := (Blk.keep (hB31_4) hk32 (fun f => f))
          have hB32_5 := hb32
          refine hK.out _ _ (HS.out _ hK32) (fun hHeld32 => ?_)
          clear hK K
          try simp only [Act.put, List.setIfInBounds_toArray, List.set_cons_zero, List.set_cons_succ]
          refine wpAnyH_ready (rs := [6]) (by kernel_rfl) (by simp) ?_
          refine AllReadyH.cons rfl (fun K hK => ?_) AllReadyH.nil
          refine store_step rfl _ (.tmp 5) (.tmp 9) rfl (g29) ((wcells a).toArray) rfl rfl 72 _ (hB32_4) HSZ.out.1 HSZ.out.2.2.1 (one_toArray (wcells_one _)) ?_
          have hb33 := Blk.row (hB32_4) ((wcells a).toArray)
          have hk33 := Keep.row (wo32) (g29) ((wcells a).toArray)
          generalize ((wo32).setRow (g29) ((wcells a).toArray)) = wo33 at *
          have hK33 : Same w1 wo33 := ((hK32).trans hk33 (fun i hi e => by have e2 : i = g29 := e; have := hlow_g29; omega))
          have hB33_4 := hb33
          have hB33_5 := (Blk.keep (hB32_5) hk33 hne_g32_g29)
          refine hK.out _ _ (HS.out _ hK33) (fun hHeld33 => ?_)
          clear hK K
          try simp only [Act.put, List.setIfInBounds_toArray]
          refine wpAnyH_ready (rs := [7]) (by kernel_rfl) (by simp) ?_
          refine AllReadyH.cons rfl (fun K hK => ?_) AllReadyH.nil
          refine store_step rfl _ (.tmp 6) (.tmp 11) rfl (g32) ((wcells b).toArray) rfl rfl 72 _ (hB33_5) HSZ.out.2.1 HSZ.out.2.2.2 (one_toArray (wcells_one _)) ?_
          have hb34 := Blk.row (hB33_5) ((wcells b).toArray)
          have hk34 := Keep.row (wo33) (g32) ((wcells b).toArray)
          generalize ((wo33).setRow (g32) ((wcells b).toArray)) = wo34 at *
          have hK34 : Same w1 wo34 := ((hK33).trans hk34 (fun i hi e => by have e2 : i = g32 := e; have := hlow_g32; omega))
          have hB34_4 := (Blk.keep (hB33_4) hk34 hne_g29_g32)
          have hB34_5 := hb34
          refine hK.out _ _ (HS.out _ hK34) (fun hHeld34 => ?_)
          clear hK K
          try simp only [Act.put]
          refine wpAnyH_done (by kernel_rfl) ?_ _
          exact REST (g29) (g32) (wo34) ⟨hK34, hB34_4, hB34_5, hne_g29_g32, hlow_g29, hlow_g32⟩
        · go_simp
          have hb35 := IsB.newL (wo30)
          have hk35 : Same (wo30) ((wo30).alloc (.cells #[.int .u64 0, .int .u64 0, .int .u64 0, .int .u64 0, .int .u64 0, .int .u64 0, .int .u64 0, .int .u64 0, .int .u64 0, .int .u64 0, .int .u64 0, .int .u64 0, .int .u64 0, .int .u64 0, .int .u64 0, .int .u64 0, .int .u64 0, .int .u64 0, .int .u64 0, .int .u64 0, .int .u64 0, .int .u64 0, .int .u64 0, .int .u64 0, .int .u64 0, .int .u64 0, .int .u64 0, .int .u64 0, .int .u64 0, .int .u64 0, .int .u64 0, .int .u64 0, .int .u64 0, .int .u64 0, .int .u64 0, .int .u64 0, .int .u64 0, .int .u64 0, .int .u64 0, .int .u64 0, .int .u64 0, .int .u64 0, .int .u64 0, .int .u64 0, .int .u64 0, .int .u64 0, .int .u64 0, .int .u64 0, .int .u64 0, .int .u64 0, .int .u64 0, .int .u64 0, .int .u64 0, .int .u64 0, .int .u64 0, .int .u64 0, .int .u64 0, .int .u64 0, .int .u64 0, .int .u64 0, .int .u64 0, .int .u64 0, .int .u64 0, .int .u64 0] 72)) := (Keep.refl _ _).alloc _
          obtain ⟨g35, hg35⟩ : ∃ g, g = (wo30).heap.size := ⟨_, rfl⟩
          rw [← hg35] at hb35 ⊢
          have hlo35 : (wo30).heap.size ≤ g35 := by omega
          clear hg35
          generalize ((wo30).alloc (.cells #[.int .u64 0, .int .u64 0, .int .u64 0, .int .u64 0, .int .u64 0, .int .u64 0, .int .u64 0, .int .u64 0, .int .u64 0, .int .u64 0, .int .u64 0, .int .u64 0, .int .u64 0, .int .u64 0, .int .u64 0, .int .u64 0, .int .u64 0, .int .u64 0, .int .u64 0, .int .u64 0, .int .u64 0, .int .u64 0, .int .u64 0, .int .u64 0, .int .u64 0, .int .u64 0, .int .u64 0, .int .u64 0, .int .u64 0, .int .u64 0, .int .u64 0, .int .u64 0, .int .u64 0, .int .u64 0, .int .u64 0, .int .u64 0, .int .u64 0, .int .u64 0, .int .u64 0, .int .u64 0, .int .u64 0, .int .u64 0, .int .u64 0, .int .u64 0, .int .u64 0, .int .u64 0, .int .u64 0, .int .u64 0, .int .u64 0, .int .u64 0, .int .u64 0, .int .u64 0, .int .u64 0, .int .u64 0, .int .u64 0, .int .u64 0, .int .u64 0, .int .u64 0, .int .u64 0, .int .u64 0, .int .u64 0, .int .u64 0, .int .u64 0, .int .u64 0] 72)) = wo35 at *
          have hK35 : Same w1 wo35 := ((hK30).then hk35)
          have hlow_g35 : w1.heap.size ≤ g35 := Nat.le_trans (hK30).size hlo35
          have hne_g29_g35 : g29 ≠ g35 := by have := Blk.lt (hB30_4); omega
          have hne_g35_g29 : g35 ≠ g29 := fun e => hne_g29_g35 e.symm
          have hB35_4 := (Blk.keep (hB30_4) hk35 (fun f => f))
          have hB35_5 := hb35
          refine hK.out _ _ (HS.out _ hK35) (fun hHeld35 => ?_)
          clear hK K
          try simp only [Act.put, List.setIfInBounds_toArray, List.set_cons_zero, List.set_cons_succ]
          refine wpAnyH_ready (rs := [3]) (by kernel_rfl) (by simp) ?_
          refine AllReadyH.cons rfl (fun K hK => ?_) AllReadyH.nil
          go_simp
          refine (HV.out wo35 hK35).mono ?_
          rintro e wo36 ⟨rfl, hk36⟩
          have hK36 : Same w1 wo36 := ((hK35).then hk36)
          have hB36_4 := (Blk.keep (hB35_4) hk36 (fun f => f))
          have hB36_5 := (Blk.keep (hB35_5) hk36 (fun f => f))
          refine hK.out _ _ (HS.out _ hK36) (fun hHeld36 => ?_)
          clear hK K
          try simp only [Act.put, List.setIfInBounds_toArray, List.set_cons_zero, List.set_cons_succ]
          refine wpAnyH_ready (rs := [6]) (by kernel_rfl) (by simp) ?_
          refine AllReadyH.cons rfl (fun K hK => ?_) AllReadyH.nil
          refine store_step rfl _ (.tmp 5) (.tmp 9) rfl (g29) ((wcells a).toArray) rfl rfl 72 _ (hB36_4) HSZ.out.1 HSZ.out.2.2.1 (one_toArray (wcells_one _)) ?_
          have hb37 := Blk.row (hB36_4) ((wcells a).toArray)
          have hk37 := Keep.row (wo36) (g29) ((wcells a).toArray)
          generalize ((wo36).setRow (g29) ((wcells a).toArray)) = wo37 at *
          have hK37 : Same w1 wo37 := ((hK36).trans hk37 (fun i hi e => by have e2 : i = g29 := e; have := hlow_g29; omega))
          have hB37_4 := hb37
          have hB37_5 := (Blk.keep (hB36_5) hk37 hne_g35_g29)
          refine hK.out _ _ (HS.out _ hK37) (fun hHeld37 => ?_)
          clear hK K
          try simp only [Act.put, List.setIfInBounds_toArray]
          refine wpAnyH_ready (rs := [7]) (by kernel_rfl) (by simp) ?_
          refine AllReadyH.cons rfl (fun K hK => ?_) AllReadyH.nil
          refine store_step rfl _ (.tmp 6) (.tmp 11) rfl (g35) ((wcells b).toArray) rfl rfl 72 _ (hB37_5) HSZ.out.2.1 HSZ.out.2.2.2 (one_toArray (wcells_one _)) ?_
          have hb38 := Blk.row (hB37_5) ((wcells b).toArray)
          have hk38 := Keep.row (wo37) (g35) ((wcells b).toArray)
          generalize ((wo37).setRow (g35) ((wcells b).toArray)) = wo38 at *
          have hK38 : Same w1 wo38 := ((hK37).trans hk38 (fun i hi e => by have e2 : i = g35 := e; have := hlow_g35; omega))
          have hB38_4 := (Blk.keep (hB37_4) hk38 hne_g29_g35)
          have hB38_5 := hb38
          refine hK.out _ _ (HS.out _ hK38) (fun hHeld38 => ?_)
          clear hK K
          try simp only [Act.put]
          refine wpAnyH_done (by kernel_rfl) ?_ _
          exact REST (g29) (g35) (wo38) ⟨hK38, hB38_4, hB38_5, hne_g29_g35, hlow_g29, hlow_g35⟩
      · go_simp
        have hb39 := IsB.newL (wo29)
        have hk39 : Same (wo29) ((wo29).alloc (.cells #[.int .u64 0, .int .u64 0, .int .u64 0, .int .u64 0, .int .u64 0, .int .u64 0, .int .u64 0, .int .u64 0, .int .u64 0, .int .u64 0, .int .u64 0, .int .u64 0, .int .u64 0, .int .u64 0, .int .u64 0, .int .u64 0, .int .u64 0, .int .u64 0, .int .u64 0, .int .u64 0, .int .u64 0, .int .u64 0, .int .u64 0, .int .u64 0, .int .u64 0, .int .u64 0, .int .u64 0, .int .u64 0, .int .u64 0, .int .u64 0, .int .u64 0, .int .u64 0, .int .u64 0, .int .u64 0, .int .u64 0, .int .u64 0, .int .u64 0, .int .u64 0, .int .u64 0, .int .u64 0, .int .u64 0, .int .u64 0, .int .u64 0, .int .u64 0, .int .u64 0, .int .u64 0, .int .u64 0, .int .u64 0, .int .u64 0, .int .u64 0, .int .u64 0, .int .u64 0, .int .u64 0, .int .u64 0, .int .u64 0, .int .u64 0, .int .u64 0, .int .u64 0, .int .u64 0, .int .u64 0, .int .u64 0, .int .u64 0, .int .u64 0, .int .u64 0] 72)) := (Keep.refl _ _).alloc _
        obtain ⟨g39, hg39⟩ : ∃ g, g = (wo29).heap.size := ⟨_, rfl⟩
        rw [← hg39] at hb39 ⊢
        have hlo39 : (wo29).heap.size ≤ g39 := by omega
        clear hg39
        generalize ((wo29).alloc (.cells #[.int .u64 0, .int .u64 0, .int .u64 0, .int .u64 0, .int .u64 0, .int .u64 0, .int .u64 0, .int .u64 0, .int .u64 0, .int .u64 0, .int .u64 0, .int .u64 0, .int .u64 0, .int .u64 0, .int .u64 0, .int .u64 0, .int .u64 0, .int .u64 0, .int .u64 0, .int .u64 0, .int .u64 0, .int .u64 0, .int .u64 0, .int .u64 0, .int .u64 0, .int .u64 0, .int .u64 0, .int .u64 0, .int .u64 0, .int .u64 0, .int .u64 0, .int .u64 0, .int .u64 0, .int .u64 0, .int .u64 0, .int .u64 0, .int .u64 0, .int .u64 0, .int .u64 0, .int .u64 0, .int .u64 0, .int .u64 0, .int .u64 0, .int .u64 0, .int .u64 0, .int .u64 0, .int .u64 0, .int .u64 0, .int .u64 0, .int .u64 0, .int .u64 0, .int .u64 0, .int .u64 0, .int .u64 0, .int .u64 0, .int .u64 0, .int .u64 0, .int .u64 0, .int .u64 0, .int .u64 0, .int .u64 0, .int .u64 0, .int .u64 0, .int .u64 0] 72)) = wo39 at *
        have hK39 : Same w1 wo39 := ((hK29).then hk39)
        have hlow_g39 : w1.heap.size ≤ g39 := Nat.le_trans (hK29).size hlo39
        have hne_g29_g39 : g29 ≠ g39 := by have := Blk.lt (hB29_4); omega
        have hne_g39_g29 : g39 ≠ g29 := fun e => hne_g29_g39 e.symm
        have hB39_4 := (Blk.keep (hB29_4) hk39 (fun f => f))
        have hB39_5 := hb39
        refine hK.out _ _ (HS.out _ hK39) (fun hHeld39 => ?_)
        clear hK K
        try simp only [Act.put, List.setIfInBounds_toArray, List.set_cons_zero, List.set_cons_succ]
        refine wpAnyH_ready (rs := [1]) (by kernel_rfl) (by simp) ?_
        refine AllReadyH.cons rfl (fun K hK => ?_) AllReadyH.nil
        go_simp
        refine (HU.out wo39 hK39).mono ?_
        rintro e wo40 ⟨rfl, hk40⟩
        have hK40 : Same w1 wo40 := ((hK39).then hk40)
        have hB40_4 := (Blk.keep (hB39_4) hk40 (fun f => f))
        have hB40_5 := (Blk.keep (hB39_5) hk40 (fun f => f))
        refine hK.out _ _ (HS.out _ hK40) (fun hHeld40 => ?_)
        clear hK K
        try simp only [Act.put, List.setIfInBounds_toArray, List.set_cons_zero, List.set_cons_succ]
        refine wpAnyH_ready (rs := [3]) (by kernel_rfl) (by simp) ?_
        refine AllReadyH.cons rfl (fun K hK => ?_) AllReadyH.nil
        go_simp
        refine (HV.out wo40 hK40).mono ?_
        rintro e wo41 ⟨rfl, hk41⟩
        have hK41 : Same w1 wo41 := ((hK40).then hk41)
        have hB41_4 := (Blk.keep (hB40_4) hk41 (fun f => f))
        have hB41_5 := (Blk.keep (hB40_5) hk41 (fun f => f))
        refine hK.out _ _ (HS.out _ hK41) (fun hHeld41 => ?_)
        clear hK K
        try simp only [Act.put, List.setIfInBounds_toArray, List.set_cons_zero, List.set_cons_succ]
        refine wpAnyH_ready (rs := [6]) (by kernel_rfl) (by simp) ?_
        refine AllReadyH.cons rfl (fun K hK => ?_) AllReadyH.nil
        refine store_step rfl _ (.tmp 5) (.tmp 9) rfl (g29) ((wcells a).toArray) rfl rfl 72 _ (hB41_4) HSZ.out.1 HSZ.out.2.2.1 (one_toArray (wcells_one _)) ?_
        have hb42 := Blk.row (hB41_4) ((wcells a).toArray)
        have hk42 := Keep.row (wo41) (g29) ((wcells a).toArray)
        generalize ((wo41).setRow (g29) ((wcells a).toArray)) = wo42 at *
        have hK42 : Same w1 wo42 := ((hK41).trans hk42 (fun i hi e => by have e2 : i = g29 := e; have := hlow_g29; omega))
        have hB42_4 := hb42
        have hB42_5 := (Blk.keep (hB41_5) hk42 hne_g39_g29)
        refine hK.out _ _ (HS.out _ hK42) (fun hHeld42 => ?_)
        clear hK K
        try simp only [Act.put, List.setIfInBounds_toArray]
        refine wpAnyH_ready (rs := [7]) (by kernel_rfl) (by simp) ?_
        refine AllReadyH.cons rfl (fun K hK => ?_) AllReadyH.nil
        refine store_step rfl _ (.tmp 6) (.tmp 11) rfl (g39) ((wcells b).toArray) rfl rfl 72 _ (hB42_5) HSZ.out.2.1 HSZ.out.2.2.2 (one_toArray (wcells_one _)) ?_
        have hb43 := Blk.row (hB42_5) ((wcells b).toArray)
        have hk43 := Keep.row (wo42) (g39) ((wcells b).toArray)
        generalize ((wo42).setRow (g39) ((wcells b).toArray)) = wo43 at *
        have hK43 : Same w1 wo43 := ((hK42).trans hk43 (fun i hi e => by have e2 : i = g39 := e; have := hlow_g39; omega))
        have hB43_4 := (Blk.keep (hB42_4) hk43 hne_g29_g39)
        have hB43_5 := hb43
        refine hK.out _ _ (HS.out _ hK43) (fun hHeld43 => ?_)
        clear hK K
        try simp only [Act.put]
        refine wpAnyH_done (by kernel_rfl) ?_ _
        exact REST (g29) (g39) (wo43) ⟨hK43, hB43_4, hB43_5, hne_g29_g39, hlow_g29, hlow_g39⟩
    · go_simp
      have hb44 := IsB.newL (wd)
      have hk44 : Same (wd) ((wd).alloc (.cells #[.int .u64 0, .int .u64 0, .int .u64 0, .int .u64 0, .int .u64 0, .int .u64 0, .int .u64 0, .int .u64 0, .int .u64 0, .int .u64 0, .int .u64 0, .int .u64 0, .int .u64 0, .int .u64 0, .int .u64 0, .int .u64 0, .int .u64 0, .int .u64 0, .int .u64 0, .int .u64 0, .int .u64 0, .int .u64 0, .int .u64 0, .int .u64 0, .int .u64 0, .int .u64 0, .int .u64 0, .int .u64 0, .int .u64 0, .int .u64 0, .int .u64 0, .int .u64 0, .int .u64 0, .int .u64 0, .int .u64 0, .int .u64 0, .int .u64 0, .int .u64 0, .int .u64 0, .int .u64 0, .int .u64 0, .int .u64 0, .int .u64 0, .int .u64 0, .int .u64 0, .int .u64 0, .int .u64 0, .int .u64 0, .int .u64 0, .int .u64 0, .int .u64 0, .int .u64 0, .int .u64 0, .int .u64 0, .int .u64 0, .int .u64 0, .int .u64 0, .int .u64 0, .int .u64 0, .int .u64 0, .int .u64 0, .int .u64 0, .int .u64 0, .int .u64 0] 72)) := (Keep.refl _ _).alloc _
      obtain ⟨g44, hg44⟩ : ∃ g, g = (wd).heap.size := ⟨_, rfl⟩
      rw [← hg44] at hb44 ⊢
      have hlo44 : (wd).heap.size ≤ g44 := by omega
      clear hg44
      generalize ((wd).alloc (.cells #[.int .u64 0, .int .u64 0, .int .u64 0, .int .u64 0, .int .u64 0, .int .u64 0, .int .u64 0, .int .u64 0, .int .u64 0, .int .u64 0, .int .u64 0, .int .u64 0, .int .u64 0, .int .u64 0, .int .u64 0, .int .u64 0, .int .u64 0, .int .u64 0, .int .u64 0, .int .u64 0, .int .u64 0, .int .u64 0, .int .u64 0, .int .u64 0, .int .u64 0, .int .u64 0, .int .u64 0, .int .u64 0, .int .u64 0, .int .u64 0, .int .u64 0, .int .u64 0, .int .u64 0, .int .u64 0, .int .u64 0, .int .u64 0, .int .u64 0, .int .u64 0, .int .u64 0, .int .u64 0, .int .u64 0, .int .u64 0, .int .u64 0, .int .u64 0, .int .u64 0, .int .u64 0, .int .u64 0, .int .u64 0, .int .u64 0, .int .u64 0, .int .u64 0, .int .u64 0, .int .u64 0, .int .u64 0, .int .u64 0, .int .u64 0, .int .u64 0, .int .u64 0, .int .u64 0, .int .u64 0, .int .u64 0, .int .u64 0, .int .u64 0, .int .u64 0] 72)) = wo44 at *
      have hK44 : Same w1 wo44 := ((hkd).then hk44)
      have hlow_g44 : w1.heap.size ≤ g44 := Nat.le_trans (hkd).size hlo44
      have hB44_5 := hb44
      refine hK.out _ _ (HS.out _ hK44) (fun hHeld44 => ?_)
      clear hK K
      try simp only [Act.put, List.setIfInBounds_toArray, List.set_cons_zero, List.set_cons_succ]
      refine wpAnyH_ready (rs := [1, 4]) (by kernel_rfl) (by simp) ?_
      refine AllReadyH.cons rfl (fun K hK => ?_) (AllReadyH.cons rfl (fun K hK => ?_) AllReadyH.nil)
      · go_simp
        refine (HU.out wo44 hK44).mono ?_
        rintro e wo45 ⟨rfl, hk45⟩
        have hK45 : Same w1 wo45 := ((hK44).then hk45)
        have hB45_5 := (Blk.keep (hB44_5) hk45 (fun f => f))
        refine hK.out _ _ (HS.out _ hK45) (fun hHeld45 => ?_)
        clear hK K
        try simp only [Act.put, List.setIfInBounds_toArray, List.set_cons_zero, List.set_cons_succ]
        refine wpAnyH_ready (rs := [3, 4]) (by kernel_rfl) (by simp) ?_
        refine AllReadyH.cons rfl (fun K hK => ?_) (AllReadyH.cons rfl (fun K hK => ?_) AllReadyH.nil)
        · go_simp
          refine (HV.out wo45 hK45).mono ?_
          rintro e wo46 ⟨rfl, hk46⟩
          have hK46 : Same w1 wo46 := ((hK45).then hk46)
          have hB46_5 := (Blk.keep (hB45_5) hk46 (fun f => f))
          refine hK.out _ _ (HS.out _ hK46) (fun hHeld46 => ?_)
          clear hK K
          try simp only [Act.put, List.setIfInBounds_toArray, List.set_cons_zero, List.set_cons_succ]
          refine wpAnyH_ready (rs := [4]) (by kernel_rfl) (by simp) ?_
          refine AllReadyH.cons rfl (fun K hK => ?_) AllReadyH.nil
          go_simp
          have hb47 := IsB.newL (wo46)
          have hk47 : Same (wo46) ((wo46).alloc (.cells #[.int .u64 0, .int .u64 0, .int .u64 0, .int .u64 0, .int .u64 0, .int .u64 0, .int .u64 0, .int .u64 0, .int .u64 0, .int .u64 0, .int .u64 0, .int .u64 0, .int .u64 0, .int .u64 0, .int .u64 0, .int .u64 0, .int .u64 0, .int .u64 0, .int .u64 0, .int .u64 0, .int .u64 0, .int .u64 0, .int .u64 0, .int .u64 0, .int .u64 0, .int .u64 0, .int .u64 0, .int .u64 0, .int .u64 0, .int .u64 0, .int .u64 0, .int .u64 0, .int .u64 0, .int .u64 0, .int .u64 0, .int .u64 0, .int .u64 0, .int .u64 0, .int .u64 0, .int .u64 0, .int .u64 0, .int .u64 0, .int .u64 0, .int .u64 0, .int .u64 0, .int .u64 0, .int .u64 0, .int .u64 0, .int .u64 0, .int .u64 0, .int .u64 0, .int .u64 0, .int .u64 0, .int .u64 0, .int .u64 0, .int .u64 0, .int .u64 0, .int .u64 0, .int .u64 0, .int .u64 0, .int .u64 0, .int .u64 0, .int .u64 0, .int .u64 0] 72)) := (Keep.refl _ _).alloc _
          obtain ⟨g47, hg47⟩ : ∃ g, g = (wo46).heap.size := ⟨_, rfl⟩
          rw [← hg47] at hb47 ⊢
          have hlo47 : (wo46).heap.size ≤ g47 := by omega
          clear hg47
          generalize ((wo46).alloc (.cells #[.int .u64 0, .int .u64 0, .int .u64 0, .int .u64 0, .int .u64 0, .int .u64 0, .int .u64 0, .int .u64 0, .int .u64 0, .int .u64 0, .int .u64 0, .int .u64 0, .int .u64 0, .int .u64 0, .int .u64 0, .int .u64 0, .int .u64 0, .int .u64 0, .int .u64 0, .int .u64 0, .int .u64 0, .int .u64 0, .int .u64 0, .int .u64 0, .int .u64 0, .int .u64 0, .int .u64 0, .int .u64 0, .int .u64 0, .int .u64 0, .int .u64 0, .int .u64 0, .int .u64 0, .int .u64 0, .int .u64 0, .int .u64 0, .int .u64 0, .int .u64 0, .int .u64 0, .int .u64 0, .int .u64 0, .int .u64 0, .int .u64 0, .int .u64 0, .int .u64 0, .int .u64 0, .int .u64 0, .int .u64 0, .int .u64 0, .int .u64 0, .int .u64 0, .int .u64 0, .int .u64 0, .int .u64 0, .int .u64 0, .int .u64 0, .int .u64 0, .int .u64 0, .int .u64 0, .int .u64 0, .int .u64 0, .int .u64 0, .int .u64 0, .int .u64 0] 72)) = wo47 at *
          have hK47 : Same w1 wo47 := ((hK46).then hk47)
          have hlow_g47 : w1.heap.size ≤ g47 := Nat.le_trans (hK46).size hlo47
          have hne_g44_g47 : g44 ≠ g47 := by have := Blk.lt (hB46_5); omega
          have hne_g47_g44 : g47 ≠ g44 := fun e => hne_g44_g47 e.symm
          have hB47_5 := (Blk.keep (hB46_5) hk47 (fun f => f))
          have hB47_4 := hb47
          refine hK.out _ _ (HS.out _ hK47) (fun hHeld47 => ?_)
          clear hK K
          try simp only [Act.put, List.setIfInBounds_toArray, List.set_cons_zero, List.set_cons_succ]
          refine wpAnyH_ready (rs := [6]) (by kernel_rfl) (by simp) ?_
          refine AllReadyH.cons rfl (fun K hK => ?_) AllReadyH.nil
          refine store_step rfl _ (.tmp 5) (.tmp 9) rfl (g47) ((wcells a).toArray) rfl rfl 72 _ (hB47_4) HSZ.out.1 HSZ.out.2.2.1 (one_toArray (wcells_one _)) ?_
          have hb48 := Blk.row (hB47_4) ((wcells a).toArray)
          have hk48 := Keep.row (wo47) (g47) ((wcells a).toArray)
          generalize ((wo47).setRow (g47) ((wcells a).toArray)) = wo48 at *
          have hK48 : Same w1 wo48 := ((hK47).trans hk48 (fun i hi e => by have e2 : i = g47 := e; have := hlow_g47; omega))
          have hB48_5 := (Blk.keep (hB47_5) hk48 hne_g44_g47)
          have hB48_4 := hb48
          refine hK.out _ _ (HS.out _ hK48) (fun hHeld48 => ?_)
          clear hK K
          try simp only [Act.put, List.setIfInBounds_toArray]
          refine wpAnyH_ready (rs := [7]) (by kernel_rfl) (by simp) ?_
          refine AllReadyH.cons rfl (fun K hK => ?_) AllReadyH.nil
          refine store_step rfl _ (.tmp 6) (.tmp 11) rfl (g44) ((wcells b).toArray) rfl rfl 72 _ (hB48_5) HSZ.out.2.1 HSZ.out.2.2.2 (one_toArray (wcells_one _)) ?_
          have hb49 := Blk.row (hB48_5) ((wcells b).toArray)
          have hk49 := Keep.row (wo48) (g44) ((wcells b).toArray)
          generalize ((wo48).setRow (g44) ((wcells b).toArray)) = wo49 at *
          have hK49 : Same w1 wo49 := ((hK48).trans hk49 (fun i hi e => by have e2 : i = g44 := e; have := hlow_g44; omega))
          have hB49_5 := hb49
          have hB49_4 := (Blk.keep (hB48_4) hk49 hne_g47_g44)
          refine hK.out _ _ (HS.out _ hK49) (fun hHeld49 => ?_)
          clear hK K
          try simp only [Act.put]
          refine wpAnyH_done (by kernel_rfl) ?_ _
          exact REST (g47) (g44) (wo49) ⟨hK49, hB49_4, hB49_5, hne_g47_g44, hlow_g47, hlow_g44⟩
        · go_simp
          have hb50 := IsB.newL (wo45)
          have hk50 : Same (wo45) ((wo45).alloc (.cells #[.int .u64 0, .int .u64 0, .int .u64 0, .int .u64 0, .int .u64 0, .int .u64 0, .int .u64 0, .int .u64 0, .int .u64 0, .int .u64 0, .int .u64 0, .int .u64 0, .int .u64 0, .int .u64 0, .int .u64 0, .int .u64 0, .int .u64 0, .int .u64 0, .int .u64 0, .int .u64 0, .int .u64 0, .int .u64 0, .int .u64 0, .int .u64 0, .int .u64 0, .int .u64 0, .int .u64 0, .int .u64 0, .int .u64 0, .int .u64 0, .int .u64 0, .int .u64 0, .int .u64 0, .int .u64 0, .int .u64 0, .int .u64 0, .int .u64 0, .int .u64 0, .int .u64 0, .int .u64 0, .int .u64 0, .int .u64 0, .int .u64 0, .int .u64 0, .int .u64 0, .int .u64 0, .int .u64 0, .int .u64 0, .int .u64 0, .int .u64 0, .int .u64 0, .int .u64 0, .int .u64 0, .int .u64 0, .int .u64 0, .int .u64 0, .int .u64 0, .int .u64 0, .int .u64 0, .int .u64 0, .int .u64 0, .int .u64 0, .int .u64 0, .int .u64 0] 72)) := (Keep.refl _ _).alloc _
          obtain ⟨g50, hg50⟩ : ∃ g, g = (wo45).heap.size := ⟨_, rfl⟩
          rw [← hg50] at hb50 ⊢
          have hlo50 : (wo45).heap.size ≤ g50 := by omega
          clear hg50
          generalize ((wo45).alloc (.cells #[.int .u64 0, .int .u64 0, .int .u64 0, .int .u64 0, .int .u64 0, .int .u64 0, .int .u64 0, .int .u64 0, .int .u64 0, .int .u64 0, .int .u64 0, .int .u64 0, .int .u64 0, .int .u64 0, .int .u64 0, .int .u64 0, .int .u64 0, .int .u64 0, .int .u64 0, .int .u64 0, .int .u64 0, .int .u64 0, .int .u64 0, .int .u64 0, .int .u64 0, .int .u64 0, .int .u64 0, .int .u64 0, .int .u64 0, .int .u64 0, .int .u64 0, .int .u64 0, .int .u64 0, .int .u64 0, .int .u64 0, .int .u64 0, .int .u64 0, .int .u64 0, .int .u64 0, .int .u64 0, .int .u64 0, .int .u64 0, .int .u64 0, .int .u64 0, .int .u64 0, .int .u64 0, .int .u64 0, .int .u64 0, .int .u64 0, .int .u64 0, .int .u64 0, .int .u64 0, .int .u64 0, .int .u64 0, .int .u64 0, .int .u64 0, .int .u64 0, .int .u64 0, .int .u64 0, .int .u64 0, .int .u64 0, .int .u64 0, .int .u64 0, .int .u64 0] 72)) = wo50 at *
          have hK50 : Same w1 wo50 := ((hK45).then hk50)
          have hlow_g50 : w1.heap.size ≤ g50 := Nat.le_trans (hK45).size hlo50
          have hne_g44_g50 : g44 ≠ g50 := by have := Blk.lt (hB45_5); omega
          have hne_g50_g44 : g50 ≠ g44 := fun e => hne_g44_g50 e.symm
          have hB50_5 := (Blk.keep (hB45_5) hk50 (fun f => f))
          have hB50_4 := hb50
          refine hK.out _ _ (HS.out _ hK50) (fun hHeld50 => ?_)
          clear hK K
          try simp only [Act.put, List.setIfInBounds_toArray, List.set_cons_zero, List.set_cons_succ]
          refine wpAnyH_ready (rs := [3]) (by kernel_rfl) (by simp) ?_
          refine AllReadyH.cons rfl (fun K hK => ?_) AllReadyH.nil
          go_simp
          refine (HV.out wo50 hK50).mono ?_
          rintro e wo51 ⟨rfl, hk51⟩
          have hK51 : Same w1 wo51 := ((hK50).then hk51)
          have hB51_5 := (Blk.keep (hB50_5) hk51 (fun f => f))
          have hB51_4 := (Blk.keep (hB50_4) hk51 (fun f => f))
          refine hK.out _ _ (HS.out _ hK51) (fun hHeld51 => ?_)
          clear hK K
          try simp only [Act.put, List.setIfInBounds_toArray, List.set_cons_zero, List.set_cons_succ]
          refine wpAnyH_ready (rs := [6]) (by kernel_rfl) (by simp) ?_
          refine AllReadyH.cons rfl (fun K hK => ?_) AllReadyH.nil
          refine store_step rfl _ (.tmp 5) (.tmp 9) rfl (g50) ((wcells a).toArray) rfl rfl 72 _ (hB51_4) HSZ.out.1 HSZ.out.2.2.1 (one_toArray (wcells_one _)) ?_
          have hb52 := Blk.row (hB51_4) ((wcells a).toArray)
          have hk52 := Keep.row (wo51) (g50) ((wcells a).toArray)
          generalize ((wo51).setRow (g50) ((wcells a).toArray)) = wo52 at *
          have hK52 : Same w1 wo52 := ((hK51).trans hk52 (fun i hi e => by have e2 : i = g50 := e; have := hlow_g50; omega))
          have hB52_5 := (Blk.keep (hB51_5) hk52 hne_g44_g50)
          have hB52_4 := hb52
          refine hK.out _ _ (HS.out _ hK52) (fun hHeld52 => ?_)
          clear hK K
          try simp only [Act.put, List.setIfInBounds_toArray]
          refine wpAnyH_ready (rs := [7]) (by kernel_rfl) (by simp) ?_
          refine AllReadyH.cons rfl (fun K hK => ?_) AllReadyH.nil
          refine store_step rfl _ (.tmp 6) (.tmp 11) rfl (g44) ((wcells b).toArray) rfl rfl 72 _ (hB52_5) HSZ.out.2.1 HSZ.out.2.2.2 (one_toArray (wcells_one _)) ?_
          have hb53 := Blk.row (hB52_5) ((wcells b).toArray)
          have hk53 := Keep.row (wo52) (g44) ((wcells b).toArray)
          generalize ((wo52).setRow (g44) ((wcells b).toArray)) = wo53 at *
          have hK53 : Same w1 wo53 := ((hK52).trans hk53 (fun i hi e => by have e2 : i = g44 := e; have := hlow_g44; omega))
          have hB53_5 := hb53
          have hB53_4 := (Blk.keep (hB52_4) hk53 hne_g50_g44)
          refine hK.out _ _ (HS.out _ hK53) (fun hHeld53 => ?_)
          clear hK K
          try simp only [Act.put]
          refine wpAnyH_done (by kernel_rfl) ?_ _
          exact REST (g50) (g44) (wo53) ⟨hK53, hB53_4, hB53_5, hne_g50_g44, hlow_g50, hlow_g44⟩
      · go_simp
        have hb54 := IsB.newL (wo44)
        have hk54 : Same (wo44) ((wo44).alloc (.cells #[.int .u64 0, .int .u64 0, .int .u64 0, .int .u64 0, .int .u64 0, .int .u64 0, .int .u64 0, .int .u64 0, .int .u64 0, .int .u64 0, .int .u64 0, .int .u64 0, .int .u64 0, .int .u64 0, .int .u64 0, .int .u64 0, .int .u64 0, .int .u64 0, .int .u64 0, .int .u64 0, .int .u64 0, .int .u64 0, .int .u64 0, .int .u64 0, .int .u64 0, .int .u64 0, .int .u64 0, .int .u64 0, .int .u64 0, .int .u64 0, .int .u64 0, .int .u64 0, .int .u64 0, .int .u64 0, .int .u64 0, .int .u64 0, .int .u64 0, .int .u64 0, .int .u64 0, .int .u64 0, .int .u64 0, .int .u64 0, .int .u64 0, .int .u64 0, .int .u64 0, .int .u64 0, .int .u64 0, .int .u64 0, .int .u64 0, .int .u64 0, .int .u64 0, .int .u64 0, .int .u64 0, .int .u64 0, .int .u64 0, .int .u64 0, .int .u64 0, .int .u64 0, .int .u64 0, .int .u64 0, .int .u64 0, .int .u64 0, .int .u64 0, .int .u64 0] 72)) := (Keep.refl _ _).alloc _
        obtain ⟨g54, hg54⟩ : ∃ g, g = (wo44).heap.size := ⟨_, rfl⟩
        rw [← hg54] at hb54 ⊢
        have hlo54 : (wo44).heap.size ≤ g54 := by omega
        clear hg54
        generalize ((wo44).alloc (.cells #[.int .u64 0, .int .u64 0, .int .u64 0, .int .u64 0, .int .u64 0, .int .u64 0, .int .u64 0, .int .u64 0, .int .u64 0, .int .u64 0, .int .u64 0, .int .u64 0, .int .u64 0, .int .u64 0, .int .u64 0, .int .u64 0, .int .u64 0, .int .u64 0, .int .u64 0, .int .u64 0, .int .u64 0, .int .u64 0, .int .u64 0, .int .u64 0, .int .u64 0, .int .u64 0, .int .u64 0, .int .u64 0, .int .u64 0, .int .u64 0, .int .u64 0, .int .u64 0, .int .u64 0, .int .u64 0, .int .u64 0, .int .u64 0, .int .u64 0, .int .u64 0, .int .u64 0, .int .u64 0, .int .u64 0, .int .u64 0, .int .u64 0, .int .u64 0, .int .u64 0, .int .u64 0, .int .u64 0, .int .u64 0, .int .u64 0, .int .u64 0, .int .u64 0, .int .u64 0, .int .u64 0, .int .u64 0, .int .u64 0, .int .u64 0, .int .u64 0, .int .u64 0, .int .u64 0, .int .u64 0, .int .u64 0, .int .u64 0, .int .u64 0, .int .u64 0] 72)) = wo54 at *
        have hK54 : Same w1 wo54 := ((hK44).then hk54)
        have hlow_g54 : w1.heap.size ≤ g54 := Nat.le_trans (hK44).size hlo54
        have hne_g44_g54 : g44 ≠ g54 := by have := Blk.lt (hB44_5); omega
        have hne_g54_g44 : g54 ≠ g44 := fun e => hne_g44_g54 e.symm
        have hB54_5 := (Blk.keep (hB44_5) hk54 (fun f => f))
        have hB54_4 := hb54
        refine hK.out _ _ (HS.out _ hK54) (fun hHeld54 => ?_)
        clear hK K
        try simp only [Act.put, List.setIfInBounds_toArray, List.set_cons_zero, List.set_cons_succ]
        refine wpAnyH_ready (rs := [1]) (by kernel_rfl) (by simp) ?_
        refine AllReadyH.cons rfl (fun K hK => ?_) AllReadyH.nil
        go_simp
        refine (HU.out wo54 hK54).mono ?_
        rintro e wo55 ⟨rfl, hk55⟩
        have hK55 : Same w1 wo55 := ((hK54).then hk55)
        have hB55_5 := (Blk.keep (hB54_5) hk55 (fun f => f))
        have hB55_4 := (Blk.keep (hB54_4) hk55 (fun f => f))
        refine hK.out _ _ (HS.out _ hK55) (fun hHeld55 => ?_)
        clear hK K
        try simp only [Act.put, List.setIfInBounds_toArray, List.set_cons_zero, List.set_cons_succ]
        refine wpAnyH_ready (rs := [3]) (by kernel_rfl) (by simp) ?_
        refine AllReadyH.cons rfl (fun K hK => ?_) AllReadyH.nil
        go_simp
        refine (HV.out wo55 hK55).mono ?_
        rintro e wo56 ⟨rfl, hk56⟩
        have hK56 : Same w1 wo56 := ((hK55).then hk56)
        have hB56_5 := (Blk.keep (hB55_5) hk56 (fun f => f))
        have hB56_4 := (Blk.keep (hB55_4) hk56 (fun f => f))
        refine hK.out _ _ (HS.out _ hK56) (fun hHeld56 => ?_)
        clear hK K
        try simp only [Act.put, List.setIfInBounds_toArray, List.set_cons_zero, List.set_cons_succ]
        refine wpAnyH_ready (rs := [6]) (by kernel_rfl) (by simp) ?_
        refine AllReadyH.cons rfl (fun K hK => ?_) AllReadyH.nil
        refine store_step rfl _ (.tmp 5) (.tmp 9) rfl (g54) ((wcells a).toArray) rfl rfl 72 _ (hB56_4) HSZ.out.1 HSZ.out.2.2.1 (one_toArray (wcells_one _)) ?_
        have hb57 := Blk.row (hB56_4) ((wcells a).toArray)
        have hk57 := Keep.row (wo56) (g54) ((wcells a).toArray)
        generalize ((wo56).setRow (g54) ((wcells a).toArray)) = wo57 at *
        have hK57 : Same w1 wo57 := ((hK56).trans hk57 (fun i hi e => by have e2 : i = g54 := e; have := hlow_g54; omega))
        have hB57_5 := (Blk.keep (hB56_5) hk57 hne_g44_g54)
        have hB57_4 := hb57
        refine hK.out _ _ (HS.out _ hK57) (fun hHeld57 => ?_)
        clear hK K
        try simp only [Act.put, List.setIfInBounds_toArray]
        refine wpAnyH_ready (rs := [7]) (by kernel_rfl) (by simp) ?_
        refine AllReadyH.cons rfl (fun K hK => ?_) AllReadyH.nil
        refine store_step rfl _ (.tmp 6) (.tmp 11) rfl (g44) ((wcells b).toArray) rfl rfl 72 _ (hB57_5) HSZ.out.2.1 HSZ.out.2.2.2 (one_toArray (wcells_one _)) ?_
        have hb58 := Blk.row (hB57_5) ((wcells b).toArray)
        have hk58 := Keep.row (wo57) (g44) ((wcells b).toArray)
        generalize ((wo57).setRow (g44) ((wcells b).toArray)) = wo58 at *
        have hK58 : Same w1 wo58 := ((hK57).trans hk58 (fun i hi e => by have e2 : i = g44 := e; have := hlow_g44; omega))
        have hB58_5 := hb58
        have hB58_4 := (Blk.keep (hB57_4) hk58 hne_g54_g44)
        refine hK.out _ _ (HS.out _ hK58) (fun hHeld58 => ?_)
        clear hK K
        try simp only [Act.put]
        refine wpAnyH_done (by kernel_rfl) ?_ _
        exact REST (g54) (g44) (wo58) ⟨hK58, hB58_4, hB58_5, hne_g54_g44, hlow_g54, hlow_g44⟩
  case rest =>
    intro g h W0 hF
    obtain ⟨hW0, hg0, hh0, hgh, hg1, hh1⟩ := hF
    have HW0 := hid hW0
    have HH := hid (fun W (hk2 : Keep (fun i => i = g) W0 W) => (Blk.keep hh0 hk2 (fun e => hgh (by have e2 : h = g := e; exact e2.symm)) : IsB W h b))
    have HZ := hid (show IsB W0 g (zipTo (· &&& ·) 0 a b) from by rw [zipTo_zero]; exact hg0)
    have hgw : w.heap.size + 2 < g := by omega
    clear hW0 hg0 hh0 hgh hlt
    go_wp2_with fail
    go_loopw [12] (fun i wr => ∃ k : Nat, k ≤ 64 ∧ i = .int .i64 k ∧ Hid (IsB wr g (zipTo (· &&& ·) k a b) ∧ Keep (fun i => i = g) W0 wr)) (fun i _ => 64 - (RowKit.intOf i).toNat)
    case atStart => exact ⟨0, by omega, rfl, hid ⟨HZ.out, Keep.refl _ _⟩⟩
    case round =>
      obtain ⟨k, hk, rfl, HI⟩ := hrel
      by_cases hlt : k < 64
      · have hk1 : (k : Int) < 64 := by omega
        obtain ⟨x, hx⟩ : ∃ x, a[k]? = some x := ⟨_, List.getElem?_eq_getElem (by rw [HOK.out.1.len]; exact hlt)⟩
        obtain ⟨y, hy⟩ : ∃ y, b[k]? = some y := ⟨_, List.getElem?_eq_getElem (by rw [HOK.out.2.len]; exact hlt)⟩
        have x1 := HI.out.1.word (zipTo_at (· &&& ·) (HOK.out.1.len.trans HOK.out.2.len.symm) hx)
        have y1 := IsB.word (HH.out wr HI.out.2) hy
        have f1 := Blk.free HI.out.1 k
        have HBT := hid (bits_and_u64_nat x y (HOK.out.1.each x (List.mem_of_getElem? hx)) (HOK.out.2.each y (List.mem_of_getElem? hy)))
        have HNX := hid (zipTo_succ (· &&& ·) (HOK.out.1.len.trans HOK.out.2.len.symm) hx hy)
        have hg1 := Blk.lt HI.out.1
        clear hx hy
        go_upto_region 5 with fail
        go_region_with (fail)
        all_goals
          rw [HBT.out]
          go_wp2_with fail
          go_roundw
          case rel =>
            first
            | exact ⟨k + 1, by omega, by go_num, hid ⟨by rw [HNX.out]; exact Blk.drew (IsB.put HI.out.1 k _), (HI.out.2.put k _).drew⟩⟩
            | ((repeat apply Exists.intro); refine And.intro ?_ rfl; exact ⟨k + 1, by omega, by go_num, hid ⟨by rw [HNX.out]; exact Blk.drew (IsB.put HI.out.1 k _), (HI.out.2.put k _).drew⟩⟩)
          case measure => simp [RowKit.intOf]; omega
      · obtain rfl : k = 64 := by omega
        have hI := HI.out
        rw [zipTo_all (· &&& ·) (HOK.out.1.len) (HOK.out.2.len)] at hI
        have HI2 := hid (show IsB wr g (andW a b) ∧ Keep (fun i => i = g) W0 wr from hI)
        have HSO := hid (setOf_any wr g (andW a b) hI.1 (andW_ok HOK.out.1 HOK.out.2))
        have h2b := ((H2.out W0 HW0.out)).keep hI.2 (show ¬ w.heap.size + 2 = g from by omega)
        have HA2 := hid h2b
        clear hI h2b
        go_wp2_with fail
        (with_reducible refine HSO.out.mono ?_)
        rintro e w3 ⟨v3, rfl, hs3, hk3, hv3⟩
        have HS3 := hid hs3
        have HA3 := hid (HA2.out.keep hk3 (fun f => f))
        have HK3 := hid (HI2.out.2.then hk3)
        clear hk3 hs3
        go_wp2_with (refine wpList_store_row rfl _ (.tmp 4) (.tmp 24) rfl (w.heap.size + 2) #[v3] rfl rfl _ _ HA3.out (by kernel_rfl) rfl HS3.out.one ?_)
        refine bodyPost_ret (results_cell_row rfl _ _ _ _ _ _ _ rfl (Blk.row HA3.out #[v3]) Tryd.underlying32 rfl (by kernel_rfl)) rfl ?_
        refine SetPost.mk2 HS3.out ((HK.out.then HW0.out).trans HK3.out (fun i hi e => by have e2 : i = g := e; omega)) (Keep.row _ _ _) (by omega) ?_
        intro g' e
        have := hv3 g' e
        omega
end Go.Proofs.YtafpcffhkbeloaaDoor

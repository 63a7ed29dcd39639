import Derived.Test.YtafpcffhkbeloaaDoorLsF
import Derived.Test.YtafpcffhkbeloaaDoorLoN
namespace Go.Proofs.YtafpcffhkbeloaaDoor
open Go.RowKit

/-! ## Rebuild -/
theorem vws_keys (l : List Ad) : (vws l).map (·.1) = l.map (fun a => a.s.key) := by
  rw [vws, List.map_map]; rfl
def RebPost (w : World) (all : List Nat) (ks : List Ks) (e : Ending) (w' : World) : Prop :=
  ∃ eb r base, e = .returned (.pointer (some ⟨eb, 0, none⟩)) ∧ EstIs w' eb r base all (runS all (rebK ks)).1 (runS all (rebK ks)).2 ∧ w.heap.size ≤ base ∧ Same w w'
set_option maxRecDepth 100000 in
set_option maxHeartbeats 8000000 in
theorem reb_est (w : World) (eb : Nat) (r : Option Nat) (base : Nat) (va vn R : Value) (all nodes : List Nat) (l : List Ad) (h : IsEst w eb r base va vn R all nodes l) (hkd : ∀ a ∈ l, 1 ≤ a.s.kd ∧ a.s.kd ≤ 9) :
    Calls Tryd.prog 27 #[.pointer (some ⟨eb, 0, none⟩)] w (RebPost w all (l.map (fun a => a.s.key))) := by
  obtain ⟨A, c, rfl⟩ := h.row.shape
  have HE := hid (fun W (hk : Same w W) => h.same hk)
  have HKD := hid hkd
  have e0 : (w.cell? ⟨eb, 0, none⟩).isSome = true := by rw [h.top.at_ 0]; rfl
  have e2 : w.cell? ⟨eb, 2, none⟩ = some (.slice A l.length c) := h.top.at_ 2
  have HFEW := hid h.few
  have HCL := hid (clonead_any w (fun _ => False) A c l (h.row.sl (fun _ _ f => f)) (by have := h.few; omega))
  have hfew : (l.length : Int) ≤ 64 := by have := h.few; omega
  clear h hkd
  unfold RebPost
  go_enter Tryd.func27, Tryd.ntmps27
  go_wp2_with fail
  (with_reducible refine HCL.out.mono ?_)
  rintro e w3 ⟨A3, c3, rfl, ho3, hk3⟩
  have HO3 := hid ho3
  have HK3 := hid hk3
  have HSO := hid (sort_own w3 _ A3 c3 l ho3 (by have := HFEW.out; omega) HKD.out)
  unfold SortPost at HSO
  clear ho3 hk3 e0 e2 HCL
  go_wp2_with fail
  (with_reducible refine HSO.out.mono ?_)
  rintro e w4 ⟨rfl, ho4, hk4⟩
  have HO4 := hid ho4
  have HK4 := hid (HK3.out.trans hk4 (fun i hi e => by have e2 : w.heap.size ≤ i := e; omega))
  clear ho4 hk4 HSO
  have HS3 := hid (fun W (hk : Same w4 W) => (show (W.cell? ⟨eb, 0, none⟩).isSome = true ∧ W.rangeAt eb 0 [va] from ⟨by rw [(HE.out W (HK4.out.then hk)).top.at_ 0]; rfl, fun j v hv => by
    match j, hv with
    | 0, hv => rw [(HE.out W (HK4.out.then hk)).top.at_ 0]; exact hv
    | j + 1, hv => simp at hv⟩))
  go_upto_region 3 with fail
  refine wp_region_held_drew (S := fun W => (W.cell? ⟨eb, 0, none⟩).isSome = true ∧ W.rangeAt eb 0 [va]) (by kernel_rfl) (HS3.out _ (Keep.refl _ _).drew) (fun hHeld => ?_)
  refine takeO (i := 0) (v := ?_) (by kernel_rfl) (by kernel_rfl) (by kernel_rfl) (fun c a d v w h => by cases d <;> exact h) (oi := ?_) ?_ ?_ (by assumption) ?_
  rotate_left 2
  · (simp only [List.getElem?_toArray, List.getElem?_cons_zero]; rfl)
  · (refine Or.inl ⟨by rfl, ?_⟩; intro w hSw; (try dsimp only at hSw); go_simp; try with_reducible rfl)
  try simp only [Act.put, List.setIfInBounds_toArray, List.set_cons_zero, List.set_cons_succ]
  refine takeO (i := 1) (v := ?_) (by kernel_rfl) (by kernel_rfl) (by kernel_rfl) (fun c a d v w h => by cases d <;> exact h) (oi := ?_) ?_ ?_ (by assumption) ?_
  rotate_left 2
  · (simp only [List.getElem?_toArray, List.getElem?_cons_succ, List.getElem?_cons_zero]; rfl)
  · (refine Or.inl ⟨by rfl, ?_⟩; intro w hSw; (try dsimp only at hSw); go_simp; try with_reducible rfl)
  try simp only [Act.put, List.setIfInBounds_toArray, List.set_cons_zero, List.set_cons_succ]
  refine takeO (i := 2) (v := ?_) (by kernel_rfl) (by kernel_rfl) (by kernel_rfl) (fun c a d v w h => by cases d <;> exact h) (oi := ?_) ?_ ?_ (by assumption) ?_
  rotate_left 2
  · (simp only [List.getElem?_toArray, List.getElem?_cons_succ, List.getElem?_cons_zero]; rfl)
  · (refine Or.inl ⟨by rfl, ?_⟩; intro w hSw; (try dsimp only at hSw); go_simp; try with_reducible rfl)
  try simp only [Act.put, List.setIfInBounds_toArray, List.set_cons_zero, List.set_cons_succ]
  refine takeMw (i := 3) (by kernel_rfl) (by kernel_rfl) (by kernel_rfl) (fun c a d v w h => by cases d <;> exact h) (oi := ?_) ?_ ?_ _ (.tmp 16) ?_ eb 0 ?_ [va] _ (fun W hW => hW.2) Tryd.underlying32 rfl (by kernel_rfl) (by assumption) ?_
  rotate_left 1
  · (simp only [List.getElem?_toArray, List.getElem?_cons_succ, List.getElem?_cons_zero]; rfl)
  · rfl
  · rfl
  · rfl
  try simp only [Act.put, List.setIfInBounds_toArray, List.set_cons_zero, List.set_cons_succ]
  refine takeO (i := 4) (v := ?_) (by kernel_rfl) (by kernel_rfl) (by kernel_rfl) (fun c a d v w h => by cases d <;> exact h) (oi := ?_) ?_ ?_ (by assumption) ?_
  rotate_left 2
  · (simp only [List.getElem?_toArray, List.getElem?_cons_succ, List.getElem?_cons_zero]; rfl)
  · (refine Or.inl ⟨by rfl, ?_⟩; intro w hSw; (try dsimp only at hSw); go_simp; try with_reducible rfl)
  try simp only [Act.put, List.setIfInBounds_toArray, List.set_cons_zero, List.set_cons_succ]
  refine takeO (i := 5) (v := ?_) (by kernel_rfl) (by kernel_rfl) (by kernel_rfl) (fun c a d v w h => by cases d <;> exact h) (oi := ?_) ?_ ?_ (by assumption) ?_
  rotate_left 2
  · (simp only [List.getElem?_toArray, List.getElem?_cons_succ, List.getElem?_cons_zero]; rfl)
  · (refine Or.inl ⟨by rfl, ?_⟩; intro w hSw; (try dsimp only at hSw); go_simp; try with_reducible rfl)
  try simp only [Act.put, List.setIfInBounds_toArray, List.set_cons_zero, List.set_cons_succ]
  refine takeO (i := 6) (v := ?_) (by kernel_rfl) (by kernel_rfl) (by kernel_rfl) (fun c a d v w h => by cases d <;> exact h) (oi := ?_) ?_ ?_ (by assumption) ?_
  rotate_left 2
  · (simp only [List.getElem?_toArray, List.getElem?_cons_succ, List.getElem?_cons_zero]; rfl)
  · (refine Or.inl ⟨by rfl, ?_⟩; intro w hSw; (try dsimp only at hSw); go_simp; try with_reducible rfl)
  try simp only [Act.put, List.setIfInBounds_toArray, List.set_cons_zero, List.set_cons_succ]
  refine takeMw (i := 7) (by kernel_rfl) (by kernel_rfl) (by kernel_rfl) (fun c a d v w h => by cases d <;> exact h) (oi := ?_) ?_ ?_ _ (.tmp 20) ?_ eb 0 ?_ [va] _ (fun W hW => hW.2) Tryd.underlying32 rfl (by kernel_rfl) (by assumption) ?_
  rotate_left 1
  · (simp only [List.getElem?_toArray, List.getElem?_cons_succ, List.getElem?_cons_zero]; rfl)
  · rfl
  · rfl
  · rfl
  try simp only [Act.put, List.setIfInBounds_toArray, List.set_cons_zero, List.set_cons_succ]
  refine takeO (i := 8) (v := ?_) (by kernel_rfl) (by kernel_rfl) (by kernel_rfl) (fun c a d v w h => by cases d <;> exact h) (oi := ?_) ?_ ?_ (by assumption) ?_
  rotate_left 2
  · (simp only [List.getElem?_toArray, List.getElem?_cons_succ, List.getElem?_cons_zero]; rfl)
  · (refine Or.inl ⟨by rfl, ?_⟩; intro w hSw; (try dsimp only at hSw); go_simp; try with_reducible rfl)
  try simp only [Act.put, List.setIfInBounds_toArray, List.set_cons_zero, List.set_cons_succ]
  refine wpAnyH_ready (rs := [9]) (by kernel_rfl) (by simp) ?_
  refine AllReadyH.cons rfl (fun K hK => ?_) AllReadyH.nil
  go_simp
  have hbe := (Blk.made w4 69 #[va, va, .slice none 0 0]).drew
  have hke : Same w4 (w4.alloc (.cells #[va, va, .slice none 0 0] 69)).drew := ((Keep.refl _ w4).alloc _).drew
  obtain ⟨nb, hnb⟩ : ∃ x, x = w4.heap.size := ⟨_, rfl⟩
  have hnb2 : nb = w4.heap.size := hnb
  rw [← hnb] at hbe ⊢
  generalize ((w4.alloc (.cells #[va, va, .slice none 0 0] 69)).drew) = w5 at *
  have HBE := hid hbe
  have HKE := hid hke
  have HNB := hid hnb2
  clear hbe hke hnb hnb2
  refine hK.out _ _ (HS3.out _ HKE.out) (fun hHeld2 => ?_)
  clear hK K
  try simp only [Act.put, List.setIfInBounds_toArray, List.set_cons_zero, List.set_cons_succ]
  refine takeO (i := 10) (v := ?_) (by kernel_rfl) (by kernel_rfl) (by kernel_rfl) (fun c a d v w h => by cases d <;> exact h) (oi := ?_) ?_ ?_ (by assumption) ?_
  rotate_left 2
  · (simp only [List.getElem?_toArray, List.getElem?_cons_succ, List.getElem?_cons_zero]; rfl)
  · (refine Or.inl ⟨by rfl, ?_⟩; intro w hSw; (try dsimp only at hSw); go_simp; try with_reducible rfl)
  try simp only [Act.put, List.setIfInBounds_toArray, List.set_cons_zero, List.set_cons_succ]
  refine wpAnyH_done (by kernel_rfl) ?_ _
  obtain ⟨ls, hls⟩ : ∃ ls, ls = sortA l := ⟨_, rfl⟩
  have hlen : ls.length = l.length := by
    have h1 := HO4.out.1
    rw [adcells_len, ← hls] at h1
    omega
  have HLS := hid (And.intro hls hlen)
  have HO5 := hid (show Own w5 w.heap.size 77 3 (.slice A3 l.length c3) l.length (adcells ls) from by rw [hls]; exact HO4.out.keep HKE.out (fun _ _ _ f => f))
  have HLT := hid (fun g (hg : A3.map (·.block) = some g) => (show w.heap.size ≤ g ∧ g < w4.heap.size from ⟨HO4.out.block g (by rw [ownb]; exact hg), HO4.out.lt g (by rw [ownb]; exact hg)⟩))
  have HK5 := hid (HK4.out.then HKE.out)
  have HA5 := hid (HE.out _ HK5.out).all_
  have h45 : w4.heap.size < w5.heap.size := by have h1 := HBE.out.lt; have h2 := HNB.out; omega
  have HSZ := hid (show w.heap.size ≤ w4.heap.size ∧ nb = w4.heap.size ∧ w4.heap.size < w5.heap.size from ⟨HK4.out.size, HNB.out, h45⟩)
  have HI0 := hid (show EstIs w5 nb none w4.heap.size all (runS all (keys ((ls.map Ad.s).take 0))).1 (runS all (keys ((ls.map Ad.s).take 0))).2 from
    ⟨va, va, .slice none 0 0, [], ⟨HBE.out, HA5.out, HA5.out, Own.nil _ _ _ _, rfl, (fun a h => by cases h), by simp, by have := HNB.out; omega⟩, rfl⟩)
  clear hls hlen h45 HS3
  go_wp2_with fail
  go_loopw [26] (fun i wr => ∃ (k : Nat), k ≤ l.length ∧ i = .int .i64 k ∧ Hid (∃ r', EstIs wr nb r' w4.heap.size all (runS all (keys ((ls.map Ad.s).take k))).1 (runS all (keys ((ls.map Ad.s).take k))).2 ∧ Own wr w.heap.size 77 3 (.slice A3 l.length c3) l.length (adcells ls) ∧ (∀ g, r' = some g → w4.heap.size ≤ g) ∧ Same w wr)) (fun i _ => l.length - (RowKit.intOf i).toNat)
  case atStart => exact ⟨0, by omega, rfl, hid ⟨none, HI0.out, HO5.out, (fun g e => by cases e), HK5.out⟩⟩
  case round =>
    obtain ⟨k, hk, rfl, HI⟩ := hrel
    obtain ⟨r', hE, hO, hr, hK⟩ := HI.out
    by_cases hlt : k < l.length
    · obtain ⟨a, hka⟩ := get_some (l := ls) (k := k) (by have := HLS.out.2; omega)
      have hk1 : (k : Int) < (l.length : Int) := by omega
      have hal : a ∈ l := by
        have h1 := List.mem_of_getElem? hka
        rw [HLS.out.1] at h1
        exact sortA_mem h1
      have hsl : Sl wr (fun _ => False) 3 A3 ls.length (adcells ls) := by rw [HLS.out.2]; exact hO.sl (fun _ _ f => f)
      obtain ⟨b1, o1, rfl, hrow⟩ := ad_row hsl hka
      have HRW := hid hrow
      have HSN := hid (show runS all (keys ((ls.map Ad.s).take (k + 1))) = stepS (runS all (keys ((ls.map Ad.s).take k))) a.s.key from by
        have h1 : (keys (ls.map Ad.s))[k]? = some a.s.key := keys_at (by rw [List.getElem?_map, hka]; rfl)
        have := runS_snoc all (keys (ls.map Ad.s)) h1
        rwa [show keys ((ls.map Ad.s).take (k + 1)) = (keys (ls.map Ad.s)).take (k + 1) from by simp [keys], show keys ((ls.map Ad.s).take k) = (keys (ls.map Ad.s)).take k from by simp [keys]])
      have HEE := hid hE
      have HOO := hid hO
      have HRR := hid hr
      have HKK := hid hK
      have HAL := hid ((HE.out wr hK).each a hal)
      clear hE hO hr hK hrow hka hal hsl
      go_upto_region 7 with (first
        | (refine wpList_load_mid rfl _ (.tmp 28) rfl _ _ rfl a.cells _ HRW.out Tryd.underlying77 rfl (by kernel_rfl) ?_)
        | (refine wpList_store_row rfl _ (.tmp 6) (.tmp 29) rfl wr.heap.size a.cells.toArray rfl rfl _ _ (Blk.made wr 77 #[.int .i64 0, .slice none 0 0, .bool false]) (by kernel_rfl) rfl (one_toArray (ad_one a)) ?_))
      have hn1 := newA_same wr a
      have hn2 := newA_blk wr a
      unfold newA at hn1 hn2
      generalize ((wr.alloc (.cells #[.int .i64 0, .slice none 0 0, .bool false] 77)).setRow wr.heap.size a.cells.toArray) = wa at *
      have hmid : wa.rangeAt wr.heap.size 0 [.int .i64 a.s.kd, .slice a.s.A a.s.ns.length a.s.c] := fun j u hu => by
        rw [hn2.at_ (0 + j), List.getElem?_toArray, Nat.zero_add]
        match j, hu with
        | 0, hu => exact hu
        | 1, hu => exact hu
        | j + 2, hu => simp at hu
      have HMID := hid hmid
      have HN1 := hid hn1
      have HADD := hid (show Calls Tryd.prog 14 #[.pointer (some ⟨nb, 0, none⟩), .agg #[.int .i64 a.s.kd, .slice a.s.A a.s.ns.length a.s.c]] wa _ from add_is wa nb r' w4.heap.size all _ _ (HEE.out.same hn1) a.s (fun i => i = eb ∨ some i = r) (Sl.same HAL.out.1 hn1) (by have := HAL.out.2; omega))
      clear hn1 hn2 hmid
      go_wp2_with (first
        | (refine wpList_load_mid rfl _ (.tmp 31) rfl wr.heap.size 0 rfl [.int .i64 a.s.kd, .slice a.s.A a.s.ns.length a.s.c] _ HMID.out Tryd.underlying40 rfl (by kernel_rfl) ?_)
        | ((with_reducible refine HADD.out.mono ?_); rintro e w6 ⟨rfl, r6, hE6, hk6, hr6⟩; have HE6 := hid hE6; have HK6 := hid hk6; have HR6 := hid hr6; clear hE6 hk6 hr6))
      go_roundw
      case rel =>
        have hz := HSZ.out
        have hz2 := HN1.out.size
        have hwr := HKK.out.size
        have hlte := HEE.out.lt
        refine ⟨k + 1, by omega, by go_num, hid ⟨r6, by rw [HSN.out]; exact HE6.out, ?_, ?_, ?_⟩⟩
        · refine (HOO.out.keep HN1.out (fun _ _ _ f => f)).keepB HK6.out (fun g e => ?_)
          have h1 := HLT.out g (by rw [ownb] at e; exact e)
          rintro (h2 | h2)
          · omega
          · have := HRR.out g h2.symm; omega
        · intro g e
          rcases HR6.out g e with h1 | h1
          · exact HRR.out g h1
          · omega
        · exact (HKK.out.then HN1.out).trans HK6.out (fun i hi e => by
            rcases e with e | e
            · omega
            · have := HRR.out i e.symm; omega)
      case measure => simp only [RowKit.intOf]; omega
    · obtain rfl : k = l.length := by omega
      have e1 : (ls.map Ad.s).take l.length = ls.map Ad.s := List.take_of_length_le (by rw [List.length_map, HLS.out.2]; exact Nat.le_refl _)
      have e2 : keys (ls.map Ad.s) = rebK (l.map (fun a => a.s.key)) := by
        rw [HLS.out.1, ← sortA_keys, keys, List.map_map]; rfl
      rw [e1, e2] at hE
      have HF := hid (And.intro hE hK)
      clear hE hO hr hK e1 e2
      go_wp2_with fail
      go_ret
      exact ⟨nb, r', w4.heap.size, rfl, HF.out.1, HSZ.out.1, HF.out.2⟩
end Go.Proofs.YtafpcffhkbeloaaDoor
namespace Go.Proofs.YtafpcffhkbeloaaDoor
open Go.RowKit

/-! ## the reference's Anew -/
def kindsTo (m : Nat) : List Int := (List.range m).map (fun (i : Nat) => (i : Int) + 1)
def preK (ks : List Ks) (m j : Nat) : List Ks := (kindsTo m).flatMap (fun k => ks.filter (fun x => x.1 == k)) ++ (ks.take j).filter (fun x => x.1 == (m : Int) + 1)
theorem preK_all (ks : List Ks) : preK ks 9 0 = rebK ks := by
  rw [preK, List.take_zero, List.filter_nil, List.append_nil]; rfl
theorem preK_none (ks : List Ks) : preK ks 0 0 = [] := rfl
theorem preK_next (ks : List Ks) (m : Nat) : preK ks m ks.length = preK ks (m + 1) 0 := by
  have e : kindsTo (m + 1) = kindsTo m ++ [(m : Int) + 1] := by simp [kindsTo, List.range_succ]
  rw [preK, preK, List.take_length, List.take_zero, List.filter_nil, List.append_nil, e, List.flatMap_append]
  simp
theorem preK_yes (ks : List Ks) (m : Nat) {j : Nat} {x : Ks} (h : ks[j]? = some x) (hx : (x.1 == (m : Int) + 1) = true) : preK ks m (j + 1) = preK ks m j ++ [x] := by
  rw [preK, preK, take_snoc h, List.filter_append, List.append_assoc]
  simp [hx]
theorem preK_no (ks : List Ks) (m : Nat) {j : Nat} {x : Ks} (h : ks[j]? = some x) (hx : (x.1 == (m : Int) + 1) = false) : preK ks m (j + 1) = preK ks m j := by
  rw [preK, preK, take_snoc h, List.filter_append]
  simp [hx]
theorem runS_app (all : List Nat) (a : List Ks) (x : Ks) : runS all (a ++ [x]) = stepS (runS all a) x := by rw [runS, List.foldl_append]; rfl
theorem stepS_len (st : List Nat × List (Ks × Bool)) (x : Ks) : (stepS st x).2.length ≤ 64 ∨ (stepS st x).2.length = st.2.length := by
  by_cases h1 : rightB x.1 x.2.length = false
  · right; simp only [stepS, addS, if_pos h1]; simp
  by_cases h2 : 64 ≤ st.2.length
  · right; simp only [stepS, addS, if_neg h1, if_pos h2]; simp
  left
  by_cases h3 : andW st.1 (ofW x.2) = zeroW
  · simp only [stepS, addS, if_neg h1, if_neg h2, if_pos h3]; simp; omega
  by_cases h4 : andW st.1 (ofW x.2) = st.1
  · simp only [stepS, addS, if_neg h1, if_neg h2, if_neg h3, if_pos h4]; simp; omega
  · simp only [stepS, addS, if_neg h1, if_neg h2, if_neg h3, if_neg h4]; simp; omega
theorem runS_len (all : List Nat) (ks : List Ks) : (runS all ks).2.length ≤ 64 := by
  unfold runS
  suffices ∀ (ks : List Ks) (st : List Nat × List (Ks × Bool)), st.2.length ≤ 64 → (ks.foldl stepS st).2.length ≤ 64 from this ks (all, []) (by simp)
  intro ks
  induction ks with
  | nil => intro st h; exact h
  | cons k ks ih => intro st h; exact ih _ (by rcases stepS_len st k with h1 | h1 <;> omega)
def AnewPost (w : World) (all : List Nat) (ks : List Ks) (e : Ending) (w' : World) : Prop := ∃ q, e = .returned (.agg q.cells.toArray) ∧ SpotIs w' (fun _ => False) q all (runS all (rebK ks)).1 (runS all (rebK ks)).2 ∧ Same w w'
/-- the loop's state -/
def AnSt (w1 wr : World) (sb ob rb : Nat) (p : Sp) (all : List Nat) (ks : List Ks) : Prop := ∃ q : Sp, Blk wr ob 36 q.cells.toArray ∧ SpotIs wr (fun i => i = ob ∨ i = rb) q all (runS all ks).1 (runS all ks).2 ∧ Keep (fun i => i = ob) w1 wr ∧ Blk wr sb 36 p.cells.toArray
set_option maxRecDepth 100000 in
set_option maxHeartbeats 16000000 in
theorem anew_any (w : World) (Av : Nat → Prop) (p : Sp) (all nodes : List Nat) (L : List (Ks × Bool)) (h : SpotIs w Av p all nodes L) (hall : OkW all) (hL : L.length ≤ 64) (hns : ∀ s ∈ p.l, s.ns.length ≤ 1000) :
    Calls Tryd.prog 28 #[.agg p.cells.toArray] w (AnewPost w all (L.map (·.1))) := by
  have hk : Same w ((w.alloc (.cells p.cells.toArray 36)).alloc (.cells #[.slice none 0 0, .slice none 0 0, .slice none 0 0, .slice none 0 0] 36)) := ((Keep.refl _ _).alloc _).alloc _
  have hb := (Blk.made w 36 p.cells.toArray).alloc (.cells #[.slice none 0 0, .slice none 0 0, .slice none 0 0, .slice none 0 0] 36)
  have hr := Blk.made (w.alloc (.cells p.cells.toArray 36)) 36 #[.slice none 0 0, .slice none 0 0, .slice none 0 0, .slice none 0 0]
  rw [World.size_alloc] at hr
  obtain ⟨sb, hsb⟩ : ∃ x, x = w.heap.size := ⟨_, rfl⟩
  obtain ⟨rb, hrb⟩ : ∃ x, x = w.heap.size + 1 := ⟨_, rfl⟩
  unfold AnewPost
  go_enter Tryd.func28, Tryd.ntmps28
  go_upto_region 1 with fail
  rw [← hrb] at hr
  rw [← hsb] at hb
  try rw [← hrb]
  try rw [← hsb]
  generalize ((w.alloc (.cells p.cells.toArray 36)).alloc (.cells #[.slice none 0 0, .slice none 0 0, .slice none 0 0, .slice none 0 0] 36)) = w1 at *
  have hlen := h.len
  obtain ⟨oks, hok, ha1, ha2, ha3, ha4⟩ := h
  have HP := hid (fun W (hk2 : Same w W) => ((hok.wide (Av' := fun i => w.heap.size ≤ i) (fun i hi e => absurd hi (Nat.not_lt.2 e))).same hk2))
  have HA := hid ha1
  have HKS := hid (show keys p.l = L.map (·.1) from ha3)
  have HLN := hid (And.intro hlen hL)
  have HNS := hid hns
  have HK := hid hk
  have HBS := hid (fun W (hk2 : Same w1 W) => hb.keep (S := fun _ => False) hk2 (fun f => f))
  have HRB := hid (fun W (hk2 : Same w1 W) => hr.keep (S := fun _ => False) hk2 (fun f => f))
  have HNE := hid (show w.heap.size ≤ sb ∧ w.heap.size ≤ rb ∧ sb ≠ rb ∧ sb < w1.heap.size ∧ rb < w1.heap.size from ⟨by omega, by omega, by omega, hb.lt, hr.lt⟩)
  have y0 : w1.cell? ⟨sb, 0, none⟩ = some (.slice p.A p.all.length p.ca) := hb.at_ 0
  have hpl : (p.l.length : Int) ≤ 64 := by omega
  clear hok ha1 ha2 ha3 ha4 hb hr hk hns hlen hL hsb hrb
  go_upto_region 2 with fail
  have hbo := Blk.made w1 36 #[.slice p.A p.all.length p.ca, .slice p.A p.all.length p.ca, .slice none 0 0, .slice none 0 0]
  have hko : Same w1 (w1.alloc (.cells #[.slice p.A p.all.length p.ca, .slice p.A p.all.length p.ca, .slice none 0 0, .slice none 0 0] 36)) := (Keep.refl _ w1).alloc _
  obtain ⟨ob, hob⟩ : ∃ x, x = w1.heap.size := ⟨_, rfl⟩
  rw [← hob] at hbo ⊢
  generalize (w1.alloc (.cells #[.slice p.A p.all.length p.ca, .slice p.A p.all.length p.ca, .slice none 0 0, .slice none 0 0] 36)) = w2 at *
  have HOB := hid (show w1.heap.size ≤ ob ∧ w1.heap.size ≤ w2.heap.size ∧ ob < w2.heap.size from ⟨by omega, hko.size, hbo.lt⟩)
  have HKO := hid hko
  have HI0 := hid (show AnSt w2 w2 sb ob rb p all (preK (L.map (·.1)) 0 0) from ⟨⟨p.A, p.ca, p.all, p.A, p.ca, p.all, none, 0, [], none, 0⟩, hbo, ⟨[], ⟨Sl.wide (HP.out _ (HK.out.then hko)).all_ (fun i _ e => by
      have h1 := HNE.out
      have h2 := HK.out.size
      show w.heap.size ≤ i
      rcases e with e | e <;> omega), Sl.wide (HP.out _ (HK.out.then hko)).all_ (fun i _ e => by
      have h1 := HNE.out
      have h2 := HK.out.size
      show w.heap.size ≤ i
      rcases e with e | e <;> omega), Srs.nil _ _, Sl.nil _ _ _ _⟩, HA.out, HA.out, rfl, rfl⟩, Keep.refl _ _, HBS.out _ hko⟩)
  clear hbo hko hob y0
  go_wp2_with fail
  go_loopw [4] (fun v4 wr => ∃ (m : Nat), v4 = .int .i64 ((m : Int) + 1) ∧ m ≤ 9 ∧ Hid (AnSt w2 wr sb ob rb p all (preK (L.map (·.1)) m 0))) (fun v4 _ => 11 - (RowKit.intOf v4).toNat)
  case atStart => exact ⟨0, by go_num, by omega, hid HI0.out⟩
  case round =>
    clear HI0
    obtain ⟨m, rfl, hm, HI⟩ := hrel
    by_cases hm9 : m < 9
    · have hmz : (m : Int) + 1 ≤ 9 := by omega
      obtain ⟨wo, hwo⟩ : ∃ x, x = wr := ⟨_, rfl⟩
      subst hwo
      go_wp2_with fail
      go_loopw [5] (fun v5 wr => ∃ (k : Nat), v5 = .int .i64 k ∧ k ≤ p.l.length ∧ Hid (AnSt w2 wr sb ob rb p all (preK (L.map (·.1)) m k))) (fun v5 _ => p.l.length - (RowKit.intOf v5).toNat)
      case atStart => exact ⟨0, by go_num, by omega, hid HI.out⟩
      case round =>
        obtain ⟨k, rfl, hk, HJ⟩ := hrel
        obtain ⟨q, hq1, hq2, hq3, hq4⟩ := HJ.out
        have x2 : wr.cell? ⟨sb, 2, none⟩ = some (.slice p.X p.l.length p.cx) := hq4.at_ 2
        by_cases hlt : k < p.l.length
        · have hkz : (k : Int) < (p.l.length : Int) := by omega
          obtain ⟨s, hks⟩ := get_some hlt
          have hsrs : Srs wr (fun i => w.heap.size ≤ i) p.X p.l := ((HP.out _ (HK.out.then HKO.out)).srcs).keep hq3 (fun i _ e => by
            have e2 : i = ob := e
            have h1 := HOB.out
            have h2 := HK.out.size
            show w.heap.size ≤ i
            omega)
          obtain ⟨b1, o1, hXe, hbl, hrow, c0, c1, hso, _⟩ := Srs.at_ hsrs hks
          have hb1 : b1 < w.heap.size := by
            obtain ⟨b', o', e', _, g2, _⟩ := hsrs.row.at_ (by omega)
            rw [hXe] at e'
            injection e' with e'
            injection e' with e3
            subst e3
            exact Nat.lt_of_not_le g2
          rw [hXe] at x2
          have HKK := hid (show (L.map (·.1))[k]? = some s.key from by rw [← HKS.out]; exact keys_at hks)
          have HN4 := hid (HNS.out s (List.mem_of_getElem? hks))
          have HQ := hid hq1
          have HQS := hid hq2
          have HQK := hid hq3
          have HQB := hid hq4
          have HSO := hid hso
          have HB1 := hid hb1
          have HRW := hid hrow
          have HXE := hid hXe
          clear hrow hks hq1 hq2 hq3 hq4 hso hsrs hb1 hXe hbl
          by_cases hkd : (s.kd == (m : Int) + 1) = true
          · have HY := hid (preK_yes (L.map (·.1)) m HKK.out hkd)
            have HS9 := hid (fun W (hk : Same wr W) => (show W.cell? ⟨sb, 2, none⟩ = some (.slice (some ⟨b1, o1, none⟩) p.l.length p.cx) ∧ W.rangeAt b1 (o1 + k * 2) s.cells from ⟨(show (Blk W sb 36 p.cells.toArray) from HQB.out.keep hk (fun f => f)).at_ 2 |>.trans (by show some (Value.slice p.X p.l.length p.cx) = _; rw [HXE.out]), range_same HRW.out hk⟩))
            have HS92 := hid (fun W (hk : Keep (fun i => i = ob) wr W) => (show W.cell? ⟨sb, 2, none⟩ = some (.slice (some ⟨b1, o1, none⟩) p.l.length p.cx) ∧ W.rangeAt b1 (o1 + k * 2) s.cells from by
              have hne : sb ≠ ob := by have h1 := HNE.out; have h2 := HOB.out; omega
              refine ⟨(show (Blk W sb 36 p.cells.toArray) from HQB.out.keep hk hne).at_ 2 |>.trans (by show some (Value.slice p.X p.l.length p.cx) = _; rw [HXE.out]), fun j v hv => ?_⟩
              have h1 := HRW.out j v hv
              have h3 : b1 ≠ ob := by have h4 := HB1.out; have h5 := HK.out.size; have h6 := HOB.out; omega
              rw [hk.cell (lt_cell h1) h3]; exact h1))
            have HTL := hid (fun W (hk : Same wr W) => (show Calls Tryd.prog 15 #[.agg q.cells.toArray, .agg #[.int .i64 s.kd, .slice s.A s.ns.length s.c]] W _ from tell_is W (fun i => i = ob ∨ i = rb) q all _ _ (HQS.out.same hk) (runS_ok hall _) (runS_len all _) s (Sl.wide (Sl.same HSO.out hk) (fun i _ e => by
              have h1 := HNE.out
              have h2 := HOB.out
              have h3 := HK.out.size
              show w.heap.size ≤ i
              rcases e with e | e <;> omega)) HN4.out))
            go_upto_region 9 with fail
            refine wp_region_held_drew (S := fun W => W.cell? ⟨sb, 2, none⟩ = some (.slice (some ⟨b1, o1, none⟩) p.l.length p.cx) ∧ W.rangeAt b1 (o1 + k * 2) s.cells) (by kernel_rfl) (HS9.out _ (Keep.refl _ _).drew) (fun hHeld => ?_)
            refine takeO (i := 1) (v := ?_) (by kernel_rfl) (by kernel_rfl) (by kernel_rfl) (fun c a d v w h => by cases d <;> exact h) (oi := ?_) ?_ ?_ (by assumption) ?_
            rotate_left 2
            · (simp only [List.getElem?_toArray, List.getElem?_cons_succ, List.getElem?_cons_zero]; rfl)
            · (refine Or.inl ⟨by rfl, ?_⟩; intro w hSw; (try dsimp only at hSw); go_simp; try with_reducible rfl)
            try simp only [Act.put, List.setIfInBounds_toArray, List.set_cons_zero, List.set_cons_succ]
            refine takeO (i := 2) (v := ?_) (by kernel_rfl) (by kernel_rfl) (by kernel_rfl) (fun c a d v w h => by cases d <;> exact h) (oi := ?_) ?_ ?_ (by assumption) ?_
            rotate_left 2
            · (simp only [List.getElem?_toArray, List.getElem?_cons_succ, List.getElem?_cons_zero]; rfl)
            · (refine Or.inl ⟨by rfl, ?_⟩; intro w hSw; (try dsimp only at hSw); go_simp; try with_reducible rfl)
            try simp only [Act.put, List.setIfInBounds_toArray, List.set_cons_zero, List.set_cons_succ]
            refine takeO (i := 3) (v := ?_) (by kernel_rfl) (by kernel_rfl) (by kernel_rfl) (fun c a d v w h => by cases d <;> exact h) (oi := ?_) ?_ ?_ (by assumption) ?_
            rotate_left 2
            · (simp only [List.getElem?_toArray, List.getElem?_cons_succ, List.getElem?_cons_zero]; rfl)
            · (refine Or.inl ⟨by rfl, ?_⟩; intro w hSw; (try dsimp only at hSw); go_simp; try with_reducible rfl)
            try simp only [Act.put, List.setIfInBounds_toArray, List.set_cons_zero, List.set_cons_succ]
            refine takeO (i := 4) (v := ?_) (by kernel_rfl) (by kernel_rfl) (by kernel_rfl) (fun c a d v w h => by cases d <;> exact h) (oi := ?_) ?_ ?_ (by assumption) ?_
            rotate_left 2
            · (simp only [List.getElem?_toArray, List.getElem?_cons_succ, List.getElem?_cons_zero]; rfl)
            · (refine Or.inl ⟨by rfl, ?_⟩; intro w hSw; (try dsimp only at hSw); go_simp; try with_reducible rfl)
            try simp only [Act.put, List.setIfInBounds_toArray, List.set_cons_zero, List.set_cons_succ]
            refine takeMw (i := 5) (by kernel_rfl) (by kernel_rfl) (by kernel_rfl) (fun c a d v w h => by cases d <;> exact h) (oi := ?_) ?_ ?_ _ (.tmp 35) ?_ b1 (o1 + k * 2) ?_ s.cells _ (fun W hW => hW.2) Tryd.underlying40 rfl (by kernel_rfl) (by assumption) ?_
            rotate_left 1
            · (simp only [List.getElem?_toArray, List.getElem?_cons_succ, List.getElem?_cons_zero]; rfl)
            · rfl
            · rfl
            · rfl
            try simp only [Act.put, List.setIfInBounds_toArray, List.set_cons_zero, List.set_cons_succ]
            have hBd := Blk.drew HQ.out
            have hKd : Same wr wr.drew := (Keep.refl _ wr).drew
            generalize wr.drew = wd at *
            refine wpAnyH_ready (rs := [0]) (by kernel_rfl) (by simp) ?_
            refine AllReadyH.cons rfl (fun K hK => ?_) AllReadyH.nil
            refine load_step rfl _ (.tmp 3) rfl ob rfl 36 q.cells.toArray (0, 0) _ hBd Tryd.underlying36 rfl (by kernel_rfl) ?_
            refine hK.out _ _ (HS9.out _ hKd) (fun hHelda => ?_)
            clear hK K
            try simp only [Act.put, List.setIfInBounds_toArray]
            refine wpAnyH_ready (rs := [6]) (by kernel_rfl) (by simp) ?_
            refine AllReadyH.cons rfl (fun K hK => ?_) AllReadyH.nil
            go_simp
            refine (HTL.out _ hKd).mono ?_
            rintro e w6 ⟨q6, rfl, hs6, hk6⟩
            have hK6 : Same wr w6 := hKd.then hk6
            have hB6 := Blk.keep hBd hk6 (fun f => f)
            refine hK.out _ _ (HS9.out _ hK6) (fun hHeldb => ?_)
            clear hK K
            try simp only [Act.put, List.setIfInBounds_toArray, List.set_cons_zero, List.set_cons_succ]
            refine takeO (i := 7) (v := ?_) (by kernel_rfl) (by kernel_rfl) (by kernel_rfl) (fun c a d v w h => by cases d <;> exact h) (oi := ?_) ?_ ?_ (by assumption) ?_
            rotate_left 2
            · (simp only [List.getElem?_toArray, List.getElem?_cons_succ, List.getElem?_cons_zero]; rfl)
            · (refine Or.inl ⟨by rfl, ?_⟩; intro w hSw; (try dsimp only at hSw); go_simp; try with_reducible rfl)
            try simp only [Act.put, List.setIfInBounds_toArray, List.set_cons_zero, List.set_cons_succ]
            refine takeO (i := 8) (v := ?_) (by kernel_rfl) (by kernel_rfl) (by kernel_rfl) (fun c a d v w h => by cases d <;> exact h) (oi := ?_) ?_ ?_ (by assumption) ?_
            rotate_left 2
            · (simp only [List.getElem?_toArray, List.getElem?_cons_succ, List.getElem?_cons_zero]; rfl)
            · (refine Or.inl ⟨by rfl, ?_⟩; intro w hSw; (try dsimp only at hSw); go_simp; try with_reducible rfl)
            try simp only [Act.put, List.setIfInBounds_toArray, List.set_cons_zero, List.set_cons_succ]
            refine takeO (i := 9) (v := ?_) (by kernel_rfl) (by kernel_rfl) (by kernel_rfl) (fun c a d v w h => by cases d <;> exact h) (oi := ?_) ?_ ?_ (by assumption) ?_
            rotate_left 2
            · (simp only [List.getElem?_toArray, List.getElem?_cons_succ, List.getElem?_cons_zero]; rfl)
            · (refine Or.inl ⟨by rfl, ?_⟩; intro w hSw; (try dsimp only at hSw); go_simp; try with_reducible rfl)
            try simp only [Act.put, List.setIfInBounds_toArray, List.set_cons_zero, List.set_cons_succ]
            refine takeO (i := 10) (v := ?_) (by kernel_rfl) (by kernel_rfl) (by kernel_rfl) (fun c a d v w h => by cases d <;> exact h) (oi := ?_) ?_ ?_ (by assumption) ?_
            rotate_left 2
            · (simp only [List.getElem?_toArray, List.getElem?_cons_succ, List.getElem?_cons_zero]; rfl)
            · (refine Or.inl ⟨by rfl, ?_⟩; intro w hSw; (try dsimp only at hSw); go_simp; try with_reducible rfl)
            try simp only [Act.put, List.setIfInBounds_toArray, List.set_cons_zero, List.set_cons_succ]
            refine wpAnyH_ready (rs := [11]) (by kernel_rfl) (by simp) ?_
            refine AllReadyH.cons rfl (fun K hK => ?_) AllReadyH.nil
            have hone := one_toArray (sp_one q6)
            have hB6b : w6.heap[ob]? = some (.cells q.cells.toArray 36 (0, 0)) := hB6
            with_reducible refine store_step ?_ 36 (.tmp 3) (.tmp 38) ?_ ob q6.cells.toArray ?_ ?_ 36 _ hB6b ?_ ?_ hone ?_
            · rfl
            · rfl
            · rfl
            · rfl
            · kernel_rfl
            · rfl
            have hk7 := Keep.row w6 ob q6.cells.toArray
            have hb7 := Blk.row hB6 q6.cells.toArray
            generalize (w6.setRow ob q6.cells.toArray) = w7 at *
            have HF7 := hid (show Blk w7 ob 36 q6.cells.toArray ∧ Keep (fun i => i = ob) wr w7 ∧ Same wr w6 ∧ Keep (fun i => i = ob) w6 w7 from ⟨hb7, (hK6.wide (fun _ _ f => f.elim)).trans hk7 (fun _ _ e => e), hK6, hk7⟩)
            have HS6 := hid hs6
            clear hk7 hb7 hB6 hB6b hs6 hone
            refine hK.out _ _ (HS92.out _ HF7.out.2.1) (fun hHeldc => ?_)
            clear hK K
            try simp only [Act.put, List.setIfInBounds_toArray]
            refine wpAnyH_done (by kernel_rfl) ?_ _
            go_wp2_with fail
            go_roundw
            case rel =>
              refine ⟨k + 1, by go_num, by omega, hid ⟨q6, HF7.out.1, ?_, HQK.out.trans HF7.out.2.1 (fun _ _ e => e), ?_⟩⟩
              · rw [HY.out, runS_app]
                exact (HS6.out.wide (Av' := fun i => i = ob ∨ i = rb) (fun i hi e => ⟨by
                  have h1 := HNE.out
                  have h2 := HOB.out
                  have h3 := HQK.out.size
                  have h4 := hKd.size
                  rcases e with e | e <;> omega, e⟩)).keep HF7.out.2.2.2 (fun i _ e => .inl e)
              · exact HQB.out.keep HF7.out.2.1 (by have h1 := HNE.out; have h2 := HOB.out; omega)
            case measure => simp [RowKit.intOf]; omega
          · have hkd2 : (s.kd == (m : Int) + 1) = false := by simpa using hkd
            have HY := hid (preK_no (L.map (·.1)) m HKK.out hkd2)
            clear hkd
            go_wp2_with fail
            go_roundw
            case rel => exact ⟨k + 1, by go_num, by omega, hid (by rw [HY.out]; exact ⟨q, HQ.out, HQS.out, HQK.out, HQB.out⟩)⟩
            case measure => simp [RowKit.intOf]; omega
        · have e : k = p.l.length := by omega
          have hkz : ¬ (k : Int) < (p.l.length : Int) := by omega
          have HFIN := hid (show AnSt w2 wr sb ob rb p all (preK (L.map (·.1)) (m + 1) 0) from by
            have h1 := HJ.out
            rw [e, HLN.out.1, show L.length = (L.map (·.1)).length from by simp, preK_next] at h1
            exact h1)
          clear hq1 hq2 hq3 hq4 e HJ
          go_wp2_with fail
          go_roundw
          case rel => exact ⟨m + 1, by go_num, by omega, hid HFIN.out⟩
          case measure => simp [RowKit.intOf]; omega
    · have hmz : ¬ (m : Int) + 1 ≤ 9 := by omega
      have e : m = 9 := by omega
      have HFIN := hid (show AnSt w2 wr sb ob rb p all (rebK (L.map (·.1))) from by
        have h1 := HI.out
        rw [e, preK_all] at h1
        exact h1)
      clear e HI
      obtain ⟨q, hq1, hq2, hq3, hq4⟩ := HFIN.out
      have HQ := hid hq1
      have HRR := hid (show Blk wr rb 36 #[.slice none 0 0, .slice none 0 0, .slice none 0 0, .slice none 0 0] from (HRB.out _ HKO.out).keep hq3 (by have h1 := HNE.out; have h2 := HOB.out; omega))
      have HQS := hid hq2
      have HQK := hid hq3
      clear hq1 hq2 hq3 hq4 HFIN
      go_wp2_with (first
        | (refine wpList_load_row rfl _ (.tmp 3) rfl ob rfl _ q.cells.toArray (0, 0) _ HQ.out Tryd.underlying36 rfl (by kernel_rfl) ?_)
        | (refine wpList_store_row rfl _ (.tmp 2) (.tmp 41) rfl rb q.cells.toArray rfl rfl 36 _ HRR.out (by kernel_rfl) rfl (one_toArray (sp_one _)) ?_))
      refine bodyPost_ret (results_cell_row rfl _ _ _ _ _ _ _ rfl (Blk.row HRR.out _) Tryd.underlying36 rfl (by kernel_rfl)) rfl ?_
      have hk9 := Keep.row wr rb q.cells.toArray
      exact ⟨q, rfl, (HQS.out.keep hk9 (fun i _ e => .inr e)).wide (fun _ _ f => f.elim), ((HK.out.then HKO.out).trans HQK.out (fun i hi e => by
        have e2 : i = ob := e
        have h1 := HOB.out
        have h2 := HK.out.size
        omega)).trans hk9 (fun i hi e => by
        have e2 : i = rb := e
        have h1 := HNE.out
        omega)⟩
end Go.Proofs.YtafpcffhkbeloaaDoor

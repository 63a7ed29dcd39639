import Derived.Test.YtafpcffhkbeloaaDoorLsI
import Derived.Test.YtafpcffhkbeloaaDoorLoP
import Derived.Test.YtafpcffhkbeloaaDoorLoQ
namespace Go.Proofs.YtafpcffhkbeloaaDoor
open Go.RowKit

/-! ## LocationRebuild: the plain law -/
theorem reb_filter (ks : List Ks) {k : Int} (hk : k ∈ kinds) : (rebK ks).filter (fun x => x.1 == k) = ks.filter (fun x => x.1 == k) := by
  have e : ∀ k' : Int, (ks.filter (fun x => x.1 == k')).filter (fun x => x.1 == k) = if k' = k then ks.filter (fun x => x.1 == k) else [] := by
    intro k'
    rw [List.filter_filter]
    by_cases h : k' = k
    · subst h; rw [if_pos rfl]; congr 1; funext x; simp
    · rw [if_neg h, List.filter_eq_nil_iff]
      intro x _ hx
      simp only [Bool.and_eq_true, beq_iff_eq] at hx
      exact h (hx.2.symm.trans hx.1)
  simp only [kinds, List.mem_cons, List.not_mem_nil, or_false] at hk
  simp only [rebK, kinds, List.flatMap_cons, List.flatMap_nil, List.filter_append, e, List.filter_nil]
  rcases hk with rfl | rfl | rfl | rfl | rfl | rfl | rfl | rfl | rfl <;> simp
theorem reb_reb (ks : List Ks) : rebK (rebK ks) = rebK ks := by
  have : ∀ l : List Int, (∀ k ∈ l, k ∈ kinds) → l.flatMap (fun k => (rebK ks).filter (fun x => x.1 == k)) = l.flatMap (fun k => ks.filter (fun x => x.1 == k)) := by
    intro l
    induction l with
    | nil => intro _; rfl
    | cons a l ih => intro h; rw [List.flatMap_cons, List.flatMap_cons, reb_filter ks (h a (by simp)), ih (fun k hk => h k (by simp [hk]))]
  exact this kinds (fun _ h => h)
theorem reb_mem {ks : List Ks} {x : Ks} (h : x ∈ rebK ks) : x ∈ ks := by
  rw [rebK, List.mem_flatMap] at h
  obtain ⟨k, _, h⟩ := h
  exact (List.mem_filter.1 h).1
theorem filters_le : ∀ (l : List Int) (ks : List Ks), l.Pairwise (· ≠ ·) → (l.flatMap (fun k => ks.filter (fun x => x.1 == k))).length ≤ ks.length
  | [], ks, _ => by simp
  | k :: l, ks, h => by
    obtain ⟨h1, h2⟩ := List.pairwise_cons.1 h
    have ih := filters_le l (ks.filter (fun x => !(x.1 == k))) h2
    have e : l.flatMap (fun k' => (ks.filter (fun x => !(x.1 == k))).filter (fun x => x.1 == k')) = l.flatMap (fun k' => ks.filter (fun x => x.1 == k')) := by
      have : ∀ l' : List Int, (∀ k' ∈ l', k ≠ k') → l'.flatMap (fun k' => (ks.filter (fun x => !(x.1 == k))).filter (fun x => x.1 == k')) = l'.flatMap (fun k' => ks.filter (fun x => x.1 == k')) := by
        intro l'
        induction l' with
        | nil => intro _; rfl
        | cons a l' ih =>
          intro h
          rw [List.flatMap_cons, List.flatMap_cons, ih (fun k' hk => h k' (by simp [hk])), List.filter_filter]
          congr 1
          apply List.filter_congr
          intro x _
          have := h a (by simp)
          by_cases hx : x.1 = a
          · simp [hx, Ne.symm this]
          · simp [hx]
      exact this l h1
    rw [e] at ih
    rw [List.flatMap_cons, List.length_append]
    have hs : (ks.filter (fun x => x.1 == k)).length + (ks.filter (fun x => !(x.1 == k))).length = ks.length := by
      clear ih e h h1 h2
      induction ks with
      | nil => rfl
      | cons x ks ih =>
        by_cases hx : (x.1 == k) = true
        · simp [hx]; omega
        · have hx2 : (x.1 == k) = false := by simpa using hx
          simp [hx2]; omega
    omega
theorem reb_le (ks : List Ks) : (rebK ks).length ≤ ks.length := filters_le kinds ks (by decide)
theorem stepS_keys (st : List Nat × List (Ks × Bool)) (k : Ks) (hg : goodK k = true) (hl : st.2.length < 64) : (stepS st k).2.map (·.1) = st.2.map (·.1) ++ [k] := by
  have h1 : ¬ rightB k.1 k.2.length = false := by unfold goodK at hg; rw [hg]; simp
  have h2 : ¬ 64 ≤ st.2.length := by omega
  by_cases h3 : andW st.1 (ofW k.2) = zeroW
  · simp only [stepS, addS, if_neg h1, if_neg h2, if_pos h3]; simp
  by_cases h4 : andW st.1 (ofW k.2) = st.1
  · simp only [stepS, addS, if_neg h1, if_neg h2, if_neg h3, if_pos h4]; simp
  · simp only [stepS, addS, if_neg h1, if_neg h2, if_neg h3, if_neg h4]; simp
theorem run_keys (all : List Nat) (ks : List Ks) (hg : ∀ k ∈ ks, goodK k = true) (hl : ks.length ≤ 64) : (runS all ks).2.map (·.1) = ks := by
  unfold runS
  suffices ∀ (ks : List Ks) (st : List Nat × List (Ks × Bool)), (∀ k ∈ ks, goodK k = true) → st.2.length + ks.length ≤ 64 → (ks.foldl stepS st).2.map (·.1) = st.2.map (·.1) ++ ks by
    have := this ks (all, []) hg (by simpa using hl)
    simpa using this
  intro ks
  induction ks with
  | nil => intro st _ _; simp
  | cons k ks ih =>
    intro st hg hl
    have h1 := stepS_keys st k (hg k (by simp)) (by simp at hl; omega)
    have h2 : (stepS st k).2.length = st.2.length + 1 := by
      have := congrArg List.length h1
      simpa using this
    rw [List.foldl_cons, ih (stepS st k) (fun x hx => hg x (by simp [hx])) (by simp at hl; omega), h1]
    simp
theorem stepS_mem (st : List Nat × List (Ks × Bool)) (k : Ks) (x : Ks × Bool) (h : x ∈ (stepS st k).2) : x ∈ st.2 ∨ (x.1 = k ∧ goodK k = true) := by
  by_cases h1 : rightB k.1 k.2.length = false
  · simp only [stepS, addS, if_pos h1] at h
    left; simpa using h
  have hg : goodK k = true := by unfold goodK; simpa using h1
  by_cases h2 : 64 ≤ st.2.length
  · simp only [stepS, addS, if_neg h1, if_pos h2] at h
    left; simpa using h
  have : ∃ b, (stepS st k).2 = st.2 ++ [(k, b)] := by
    by_cases h3 : andW st.1 (ofW k.2) = zeroW
    · exact ⟨false, by simp only [stepS, addS, if_neg h1, if_neg h2, if_pos h3]⟩
    by_cases h4 : andW st.1 (ofW k.2) = st.1
    · exact ⟨true, by simp only [stepS, addS, if_neg h1, if_neg h2, if_neg h3, if_pos h4]⟩
    · exact ⟨true, by simp only [stepS, addS, if_neg h1, if_neg h2, if_neg h3, if_neg h4]⟩
  obtain ⟨b, hb⟩ := this
  rw [hb, List.mem_append] at h
  rcases h with h | h
  · exact .inl h
  · rw [List.mem_singleton.1 h]; exact .inr ⟨rfl, hg⟩
theorem runS_good (all : List Nat) (ks : List Ks) : ∀ x ∈ (runS all ks).2, goodK x.1 = true ∧ x.1 ∈ ks := by
  unfold runS
  suffices ∀ (ks : List Ks) (st : List Nat × List (Ks × Bool)), ∀ x ∈ (ks.foldl stepS st).2, x ∈ st.2 ∨ (goodK x.1 = true ∧ x.1 ∈ ks) by
    intro x hx
    rcases this ks (all, []) x hx with h | h
    · simp at h
    · exact h
  intro ks
  induction ks with
  | nil => intro st x hx; exact .inl hx
  | cons k ks ih =>
    intro st x hx
    rcases ih (stepS st k) x hx with h | h
    · rcases stepS_mem st k x h with h | ⟨h1, h2⟩
      · exact .inl h
      · exact .inr ⟨by rw [h1]; exact h2, by rw [h1]; simp⟩
    · exact .inr ⟨h.1, by simp [h.2]⟩
theorem good_kd {k : Ks} (h : goodK k = true) : 1 ≤ k.1 ∧ k.1 ≤ 9 := by
  unfold goodK rightB at h
  simp at h
  exact ⟨h.1, h.2.1⟩
theorem reb_is (w : World) (eb : Nat) (r : Option Nat) (base : Nat) (all nodes : List Nat) (L : List (Ks × Bool)) (h : EstIs w eb r base all nodes L) (hg : ∀ x ∈ L, goodK x.1 = true) :
    Calls Tryd.prog 27 #[.pointer (some ⟨eb, 0, none⟩)] w (RebPost w all (L.map (·.1))) := by
  obtain ⟨va, vn, R, l, h1, h2⟩ := h
  have := reb_est w eb r base va vn R all nodes l h1 (fun a ha => by
    have h3 : (a.s.key, a.ok) ∈ L := by rw [← h2]; exact List.mem_map.2 ⟨a, ha, rfl⟩
    exact good_kd (hg _ h3))
  rwa [← vws_keys, h2] at this
theorem reb_again (all : List Nat) (L : List (Ks × Bool)) (hg : ∀ x ∈ L, goodK x.1 = true) (hl : L.length ≤ 64) (s2 : List Nat × List (Ks × Bool)) (h2 : s2 = runS all (rebK (L.map (·.1)))) : s2 = runS all (rebK (s2.2.map (·.1))) := by
  have h1 : s2.2.map (·.1) = rebK (L.map (·.1)) := by
    rw [h2]
    refine run_keys all _ (fun k hk => ?_) ?_
    · have h1 := reb_mem hk
      obtain ⟨x, hx, rfl⟩ := List.mem_map.1 h1
      exact hg x hx
    · have h1 := reb_le (L.map (·.1))
      rw [List.length_map] at h1
      omega
  rw [h1, reb_reb]
  exact h2
theorem reb_is2 (w : World) (eb : Nat) (r : Option Nat) (base : Nat) (all nodes : List Nat) (L : List (Ks × Bool)) (h : EstIs w eb r base all nodes L) (hg : ∀ x ∈ L, goodK x.1 = true) (s2 : List Nat × List (Ks × Bool)) (h2 : s2 = runS all (rebK (L.map (·.1)))) :
    Calls Tryd.prog 27 #[.pointer (some ⟨eb, 0, none⟩)] w (fun e w' => ∃ eb r base, e = .returned (.pointer (some ⟨eb, 0, none⟩)) ∧ EstIs w' eb r base all s2.1 s2.2 ∧ Same w w') := by
  rw [h2]
  exact (reb_is w eb r base all nodes L h hg).mono fun e w' ⟨a, b, c, h1, h2, _, h3⟩ => ⟨a, b, c, h1, h2, h3⟩
theorem anew_is2 (w : World) (Av : Nat → Prop) (p : Sp) (all nodes : List Nat) (L : List (Ks × Bool)) (h : SpotIs w Av p all nodes L) (hall : OkW all) (hL : L.length ≤ 64) (hns : ∀ s ∈ p.l, s.ns.length ≤ 1000) (s2 : List Nat × List (Ks × Bool)) (h2 : s2 = runS all (rebK (L.map (·.1)))) :
    Calls Tryd.prog 28 #[.agg p.cells.toArray] w (fun e w' => ∃ q, e = .returned (.agg q.cells.toArray) ∧ SpotIs w' (fun _ => False) q all s2.1 s2.2 ∧ Same w w') := by
  rw [h2]
  exact anew_any w Av p all nodes L h hall hL hns
set_option maxRecDepth 100000 in
set_option maxHeartbeats 8000000 in
theorem rebuild_any (w : World) (hT : Tab w) (h0 : 0 < w.heap.size) (A : Option Addr) (c : Nat) (all : List Int) (ha : Sl w (fun _ => False) 1 A all.length (icells all)) (X : Option Addr) (cx : Nat) (l : List Sr) (hl : Srs w (fun _ => False) X l) (hlm : l.length ≤ maxLen) :
    Calls Tryd.prog 7 #[.slice A all.length c, .slice X l.length cx] w (TruePost w) := by
  have HWK := hid (wakes_any w hT h0)
  have HT := hid (fun W (hk2 : Same w W) => hT.same h0 hk2)
  have HT0 := hid (fun W (hk2 : Same w W) => (show 0 < W.heap.size from Nat.lt_of_lt_of_le h0 hk2.size))
  have HA := hid (fun W (hk2 : Same w W) => ha.same hk2)
  have HS := hid (fun W (hk2 : Same w W) => hl.same hk2)
  have HLM := hid hlm
  unfold TruePost
  clear hT h0 ha hl hlm
  go_enter Tryd.func7, Tryd.ntmps7
  go_wp2_with fail
  (with_reducible refine HWK.out.mono ?_)
  rintro e w1 ⟨rfl, hk1⟩
  have HK1 := hid hk1
  clear hk1 HWK
  by_cases h40 : (all.length : Int) > 40
  · go_wp2_with fail
    go_ret
    exact ⟨rfl, HK1.out⟩
  have h40' : (all.length : Int) ≤ 40 := by omega
  clear h40
  have HSM := hid (small_any w1 _ X cx l (HS.out _ HK1.out) HLM.out)
  obtain ⟨sb, hsb⟩ : ∃ b, b = smallB l := ⟨_, rfl⟩
  rw [← hsb] at HSM
  have HSB := hid hsb
  clear hsb
  cases sb with
  | false =>
    go_wp2_with ((with_reducible refine HSM.out.mono ?_); rintro e w2 ⟨rfl, rfl⟩)
    go_ret
    exact ⟨rfl, HK1.out⟩
  | true =>
  have HN := hid (small_bounds HSB.out.symm)
  have HAL := hid (show all.length ≤ 1000 from by omega)
  have HTD := hid (run_any w1 A c all (HA.out _ HK1.out) HAL.out X cx l (HS.out _ HK1.out) (fun s hs => by have := HN.out.2 s hs; omega) (by have := HN.out.1; omega))
  unfold RunPost at HTD
  go_upto_region 5 with ((with_reducible refine HSM.out.mono ?_); rintro e w2x ⟨rfl, rfl⟩)
  clear HSM h40'
  go_wp2_with fail
  (with_reducible refine HTD.out.mono ?_)
  rintro e w4 (⟨hz, rfl, hk4⟩ | ⟨_, eb, r, base, p, rfl, hE4, _, hS4, hk4⟩)
  · go_wp2_with (refine wpList_store_row rfl _ (.tmp 6) (.tmp 24) rfl w4.heap.size #[.slice none 0 0, .slice none 0 0, .slice none 0 0, .slice none 0 0] rfl rfl 36 _ (Blk.made w4 _ _) (by kernel_rfl) rfl (by simp [Value.oneCell']) ?_)
    go_ret
    exact ⟨rfl, HK1.out.then (hk4.then (row_new w4 36 #[.slice none 0 0, .slice none 0 0, .slice none 0 0, .slice none 0 0] #[.slice none 0 0, .slice none 0 0, .slice none 0 0, .slice none 0 0]).2)⟩
  have HK4 := hid (HK1.out.then hk4)
  have HE4 := hid hE4
  have HS4 := hid hS4
  clear hE4 hS4 hk4 HTD
  go_upto_region 6 with (refine wpList_store_row rfl _ (.tmp 6) (.tmp 24) rfl w4.heap.size p.cells.toArray rfl rfl 36 _ (Blk.made w4 _ _) (by kernel_rfl) rfl (one_toArray (sp_one _)) ?_)
  have hrn := row_new w4 36 #[.slice none 0 0, .slice none 0 0, .slice none 0 0, .slice none 0 0] p.cells.toArray
  obtain ⟨xb, hxb⟩ : ∃ x, x = w4.heap.size := ⟨_, rfl⟩
  rw [← hxb] at hrn ⊢
  generalize (((w4.alloc (.cells #[.slice none 0 0, .slice none 0 0, .slice none 0 0, .slice none 0 0] 36)).setRow xb p.cells.toArray)) = w5 at *
  have HX5 := hid (fun W (hk : Same w5 W) => hrn.1.keep (S := fun _ => False) hk (fun f => f))
  have HK5 := hid (HK4.out.then hrn.2)
  obtain ⟨ks, hks⟩ : ∃ ks, ks = keys l := ⟨_, rfl⟩
  obtain ⟨st, hst⟩ : ∃ st, st = runS (ofW all) ks := ⟨_, rfl⟩
  have HE5 := hid (fun W (hk : Same w5 W) => (show EstIs W eb r base (ofW all) st.1 st.2 from by rw [hst, hks]; exact (HE4.out.same hrn.2).same hk))
  have HS5 := hid (fun W (hk : Same w5 W) => (show SpotIs W (fun _ => False) p (ofW all) st.1 st.2 from by rw [hst, hks]; exact ((HS4.out.wide (fun _ _ f => f.elim)).same hrn.2).same hk))
  have HGD := hid (show ∀ x ∈ st.2, goodK x.1 = true ∧ x.1 ∈ ks from by rw [hst]; exact runS_good _ _)
  have HKL := hid (show ∀ k ∈ ks, k.2.length ≤ 300 from by
    intro k hk
    rw [hks] at hk
    simp only [keys, List.mem_map] at hk
    obtain ⟨s, hs, rfl⟩ := hk
    exact HN.out.2 s hs)
  clear hrn hxb hst hks HE4 HS4
  obtain ⟨s2, hs2⟩ : ∃ s2, s2 = runS (ofW all) (rebK (st.2.map (·.1))) := ⟨_, rfl⟩
  have HGL := hid (show ∀ x ∈ st.2, goodK x.1 = true from fun x hx => (HGD.out x hx).1)
  have HL64 := hid ((HE5.out _ (Keep.refl _ _)).few.1)
  have HS2G := hid (show ∀ x ∈ s2.2, goodK x.1 = true from by rw [hs2]; exact fun x hx => (runS_good _ _ x hx).1)
  have HAG := hid (reb_again (ofW all) st.2 HGL.out HL64.out s2 hs2)
  have HRB := hid (reb_is2 w5 eb r base (ofW all) _ _ (HE5.out _ (Keep.refl _ _)) HGL.out s2 hs2)
  have HPN := hid (show ∀ s ∈ p.l, s.ns.length ≤ 1000 from by
    intro s hs
    obtain ⟨oks, _, _, _, g4, _⟩ := HS5.out _ (Keep.refl _ _)
    have h1 : s.key ∈ keys p.l := List.mem_map.2 ⟨s, hs, rfl⟩
    rw [g4, List.mem_map] at h1
    obtain ⟨x, hx, hxe⟩ := h1
    have h2 := HKL.out x.1 (HGD.out x hx).2
    rw [hxe] at h2
    have h3 : s.ns.length ≤ 300 := h2
    omega)
  have HAN5 := hid (fun W (hk : Same w5 W) => anew_is2 W _ p (ofW all) st.1 st.2 (HS5.out _ hk) (ofW_ok all) HL64.out HPN.out s2 hs2)
  clear hs2
  go_upto_region 9 with ((with_reducible refine HRB.out.mono ?_); rintro e w7 ⟨ea, ra, ba, rfl, hE7, hk7⟩; have HE7 := hid hE7; have HK7 := hid hk7; clear hE7 hk7)
  have HKW := hid (show Same w w7 from HK5.out.then HK7.out)
  have HSA := hid (fun W (hk : Same w7 W) => (show Blk W xb 36 p.cells.toArray from HX5.out _ (HK7.out.then hk)))
  have HAN := hid (fun W (hk : Same w7 W) => HAN5.out W (HK7.out.then hk))
  have HSM2 := hid (fun W (q : Sp) (e2 : Nat) (r2 : Option Nat) (b2 : Nat) (hk : Same w7 W) (he : EstIs W e2 r2 b2 (ofW all) s2.1 s2.2) (hq : SpotIs W (fun _ => False) q (ofW all) s2.1 s2.2) => same_is W (HT.out _ (HKW.out.then hk)) (HT0.out _ (HKW.out.then hk)) e2 r2 b2 (ofW all) s2.1 s2.2 he _ q hq)
  have HSM1 := hid (fun W (q : Sp) (hk : Same w7 W) (hq : SpotIs W (fun _ => False) q (ofW all) s2.1 s2.2) => HSM2.out W q ea ra ba hk (HE7.out.same hk) hq)
  have HRB2 := hid (fun W (hk : Same w7 W) => reb_is2 W ea ra ba (ofW all) s2.1 s2.2 (HE7.out.same hk) HS2G.out s2 HAG.out)
  have HSM3 := hid (fun W (hk : Same w7 W) => same_is W (HT.out _ (HKW.out.then hk)) (HT0.out _ (HKW.out.then hk)) eb r base (ofW all) st.1 st.2 (HE5.out _ (HK7.out.then hk)) _ p (HS5.out _ (HK7.out.then hk)))
  refine wp_region_held_drew (S := fun W => Blk W xb 36 p.cells.toArray) (by kernel_rfl) (HSA.out _ (Keep.refl _ _).drew) (fun hHeld => ?_)
  refine takeO (i := 0) (v := ?_) (by kernel_rfl) (by kernel_rfl) (by kernel_rfl) (fun c a d v w h => by cases d <;> exact h) (oi := ?_) ?_ ?_ (by assumption) ?_
  rotate_left 2
  · (simp only [List.getElem?_toArray, List.getElem?_cons_zero]; rfl)
  · (refine Or.inl ⟨by rfl, ?_⟩; intro w hSw; (try dsimp only at hSw); go_simp; try with_reducible rfl)
  try simp only [Act.put, List.setIfInBounds_toArray, List.set_cons_zero, List.set_cons_succ]
  refine takeL (i := 1) (by kernel_rfl) (by kernel_rfl) (by kernel_rfl) (fun c a d v w h => by cases d <;> exact h) (oi := ?_) ?_ _ (.tmp 6) ?_ ?_ (xb) ?_ 36 (p.cells.toArray) (0, 0) _ (fun W hW => hW) Tryd.underlying36 rfl (by kernel_rfl) (by assumption) ?_
  rotate_left 1
  · (simp only [List.getElem?_toArray, List.getElem?_cons_succ, List.getElem?_cons_zero]; rfl)
  · rfl
  · rfl
  · rfl
  try simp only [Act.put, List.setIfInBounds_toArray, List.set_cons_zero, List.set_cons_succ]
  refine wpAnyH_ready (rs := [2]) (by kernel_rfl) (by simp) ?_
  refine AllReadyH.cons rfl (fun K hK => ?_) AllReadyH.nil
  go_simp
  refine (HAN.out _ ((Keep.refl _ _).drew)).mono ?_
  rintro e w_2 ⟨q2, rfl, hs2, hk2⟩
  have HK2 := hid (show Same w7 w_2 from ((Keep.refl _ _).drew).then hk2)
  have HQ2 := hid hs2
  clear hs2
  clear hk2
  refine hK.out _ _ (HSA.out _ HK2.out) (fun hHeld1 => ?_)
  clear hK K
  try simp only [Act.put, List.setIfInBounds_toArray, List.set_cons_zero, List.set_cons_succ]
  refine wpAnyH_ready (rs := [3]) (by kernel_rfl) (by simp) ?_
  refine AllReadyH.cons rfl (fun K hK => ?_) AllReadyH.nil
  go_simp
  refine (HSM1.out _ _ (HK2.out) HQ2.out).mono ?_
  rintro e w_3 ⟨rfl, hk3⟩
  have HK3 := hid (show Same w7 w_3 from (HK2.out).then hk3)
  clear hk3
  refine hK.out _ _ (HSA.out _ HK3.out) (fun hHeld2 => ?_)
  clear hK K
  try simp only [Act.put, List.setIfInBounds_toArray, List.set_cons_zero, List.set_cons_succ]
  refine takeO (i := 4) (v := ?_) (by kernel_rfl) (by kernel_rfl) (by kernel_rfl) (fun c a d v w h => by cases d <;> exact h) (oi := ?_) ?_ ?_ (by assumption) ?_
  rotate_left 2
  · (simp only [List.getElem?_toArray, List.getElem?_cons_succ, List.getElem?_cons_zero]; rfl)
  · (refine Or.inl ⟨by rfl, ?_⟩; intro w hSw; (try dsimp only at hSw); go_simp; try with_reducible rfl)
  try simp only [Act.put, List.setIfInBounds_toArray, List.set_cons_zero, List.set_cons_succ]
  refine takeO (i := 5) (v := ?_) (by kernel_rfl) (by kernel_rfl) (by kernel_rfl) (fun c a d v w h => by cases d <;> exact h) (oi := ?_) ?_ ?_ (by assumption) ?_
  rotate_left 2
  · (simp only [List.getElem?_toArray, List.getElem?_cons_succ, List.getElem?_cons_zero]; rfl)
  · (refine Or.inl ⟨by rfl, ?_⟩; intro w hSw; (try dsimp only at hSw); go_simp; try with_reducible rfl)
  try simp only [Act.put, List.setIfInBounds_toArray, List.set_cons_zero, List.set_cons_succ]
  refine takeLw (i := 7) (by kernel_rfl) (by kernel_rfl) (by kernel_rfl) (fun c a d v w h => by cases d <;> exact h) (oi := ?_) ?_ ?_ _ (.tmp 6) ?_ (xb) ?_ 36 (p.cells.toArray) (0, 0) _ (fun W hW => hW) Tryd.underlying36 rfl (by kernel_rfl) (by assumption) ?_
  rotate_left 1
  · (simp only [List.getElem?_toArray, List.getElem?_cons_succ, List.getElem?_cons_zero]; rfl)
  · rfl
  · rfl
  · rfl
  try simp only [Act.put, List.setIfInBounds_toArray, List.set_cons_zero, List.set_cons_succ]
  refine wpAnyH_ready (rs := [6]) (by kernel_rfl) (by simp) ?_
  refine AllReadyH.cons rfl (fun K hK => ?_) AllReadyH.nil
  go_simp
  refine (HRB2.out _ (HK3.out)).mono ?_
  rintro e w_6 ⟨e2, r2, b2, rfl, hs6, hk6⟩
  have HK6 := hid (show Same w7 w_6 from (HK3.out).then hk6)
  have HE2 := hid hs6
  clear hs6
  clear hk6
  refine hK.out _ _ (HSA.out _ HK6.out) (fun hHeld3 => ?_)
  clear hK K
  try simp only [Act.put, List.setIfInBounds_toArray, List.set_cons_zero, List.set_cons_succ]
  refine wpAnyH_ready (rs := [8]) (by kernel_rfl) (by simp) ?_
  refine AllReadyH.cons rfl (fun K hK => ?_) AllReadyH.nil
  go_simp
  refine (HAN.out _ (HK6.out)).mono ?_
  rintro e w_8 ⟨q8, rfl, hs8, hk8⟩
  have HK8 := hid (show Same w7 w_8 from (HK6.out).then hk8)
  have HQ8 := hid hs8
  have HE3 := hid (HE2.out.same hk8)
  clear hs8
  clear hk8
  refine hK.out _ _ (HSA.out _ HK8.out) (fun hHeld4 => ?_)
  clear hK K
  try simp only [Act.put, List.setIfInBounds_toArray, List.set_cons_zero, List.set_cons_succ]
  refine wpAnyH_ready (rs := [9]) (by kernel_rfl) (by simp) ?_
  refine AllReadyH.cons rfl (fun K hK => ?_) AllReadyH.nil
  go_simp
  refine (HSM2.out _ _ _ _ _ (HK8.out) HE3.out HQ8.out).mono ?_
  rintro e w_9 ⟨rfl, hk9⟩
  have HK9 := hid (show Same w7 w_9 from (HK8.out).then hk9)
  clear hk9
  refine hK.out _ _ (HSA.out _ HK9.out) (fun hHeld5 => ?_)
  clear hK K
  try simp only [Act.put, List.setIfInBounds_toArray, List.set_cons_zero, List.set_cons_succ]
  refine takeO (i := 10) (v := ?_) (by kernel_rfl) (by kernel_rfl) (by kernel_rfl) (fun c a d v w h => by cases d <;> exact h) (oi := ?_) ?_ ?_ (by assumption) ?_
  rotate_left 2
  · (simp only [List.getElem?_toArray, List.getElem?_cons_succ, List.getElem?_cons_zero]; rfl)
  · (refine Or.inl ⟨by rfl, ?_⟩; intro w hSw; (try dsimp only at hSw); go_simp; try with_reducible rfl)
  try simp only [Act.put, List.setIfInBounds_toArray, List.set_cons_zero, List.set_cons_succ]
  refine takeO (i := 11) (v := ?_) (by kernel_rfl) (by kernel_rfl) (by kernel_rfl) (fun c a d v w h => by cases d <;> exact h) (oi := ?_) ?_ ?_ (by assumption) ?_
  rotate_left 2
  · (simp only [List.getElem?_toArray, List.getElem?_cons_succ, List.getElem?_cons_zero]; rfl)
  · (refine Or.inl ⟨by rfl, ?_⟩; intro w hSw; (try dsimp only at hSw); go_simp; try with_reducible rfl)
  try simp only [Act.put, List.setIfInBounds_toArray, List.set_cons_zero, List.set_cons_succ]
  refine takeO (i := 12) (v := ?_) (by kernel_rfl) (by kernel_rfl) (by kernel_rfl) (fun c a d v w h => by cases d <;> exact h) (oi := ?_) ?_ ?_ (by assumption) ?_
  rotate_left 2
  · (simp only [List.getElem?_toArray, List.getElem?_cons_succ, List.getElem?_cons_zero]; rfl)
  · (refine Or.inl ⟨by rfl, ?_⟩; intro w hSw; (try dsimp only at hSw); go_simp; try with_reducible rfl)
  try simp only [Act.put, List.setIfInBounds_toArray, List.set_cons_zero, List.set_cons_succ]
  refine takeLw (i := 13) (by kernel_rfl) (by kernel_rfl) (by kernel_rfl) (fun c a d v w h => by cases d <;> exact h) (oi := ?_) ?_ ?_ _ (.tmp 6) ?_ (xb) ?_ 36 (p.cells.toArray) (0, 0) _ (fun W hW => hW) Tryd.underlying36 rfl (by kernel_rfl) (by assumption) ?_
  rotate_left 1
  · (simp only [List.getElem?_toArray, List.getElem?_cons_succ, List.getElem?_cons_zero]; rfl)
  · rfl
  · rfl
  · rfl
  try simp only [Act.put, List.setIfInBounds_toArray, List.set_cons_zero, List.set_cons_succ]
  refine wpAnyH_ready (rs := [14]) (by kernel_rfl) (by simp) ?_
  refine AllReadyH.cons rfl (fun K hK => ?_) AllReadyH.nil
  go_simp
  refine (HSM3.out _ (HK9.out)).mono ?_
  rintro e w_14 ⟨rfl, hk14⟩
  have HK14 := hid (show Same w7 w_14 from (HK9.out).then hk14)
  clear hk14
  refine hK.out _ _ (HSA.out _ HK14.out) (fun hHeld6 => ?_)
  clear hK K
  try simp only [Act.put, List.setIfInBounds_toArray, List.set_cons_zero, List.set_cons_succ]
  refine takeO (i := 15) (v := ?_) (by kernel_rfl) (by kernel_rfl) (by kernel_rfl) (fun c a d v w h => by cases d <;> exact h) (oi := ?_) ?_ ?_ (by assumption) ?_
  rotate_left 2
  · (simp only [List.getElem?_toArray, List.getElem?_cons_succ, List.getElem?_cons_zero]; rfl)
  · (refine Or.inl ⟨by rfl, ?_⟩; intro w hSw; (try dsimp only at hSw); go_simp; try with_reducible rfl)
  try simp only [Act.put, List.setIfInBounds_toArray, List.set_cons_zero, List.set_cons_succ]
  refine takeO (i := 16) (v := ?_) (by kernel_rfl) (by kernel_rfl) (by kernel_rfl) (fun c a d v w h => by cases d <;> exact h) (oi := ?_) ?_ ?_ (by assumption) ?_
  rotate_left 2
  · (simp only [List.getElem?_toArray, List.getElem?_cons_succ, List.getElem?_cons_zero]; rfl)
  · (refine Or.inl ⟨by rfl, ?_⟩; intro w hSw; (try dsimp only at hSw); go_simp; try with_reducible rfl)
  try simp only [Act.put, List.setIfInBounds_toArray, List.set_cons_zero, List.set_cons_succ]
  refine wpAnyH_done (by kernel_rfl) ?_ _
  go_wp2_with fail
  go_ret
  exact ⟨rfl, HKW.out.then HK14.out⟩
end Go.Proofs.YtafpcffhkbeloaaDoor

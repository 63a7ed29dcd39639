import Derived.Test.YtbellndcgagclaaUn
namespace Go.Proofs.Ytbellndcgagclaa
open Go.RowKit

/-! ## NoAliasing -/
theorem own_lit0 (w : World) (e : TypeId) (size : Nat) : Own (w.alloc (.cells #[] e)) w.heap.size e size (.slice (some ⟨w.heap.size, 0, none⟩) 0 0) 0 [] :=
  Own.of_blk (Nat.le_refl _) (Blk.made w e #[]) (Nat.le_refl _) (by simp [maxLen]) (by simp) (by simp)
def naQ (l : List Int) : List PE := [(1, 2, l), (1, 2, l)]
theorem na_add (l : List Int) (h : l.length ≤ 200) : addL id [] ((1 : Int), (2 : Int), l) = [(1, 2, l)] := by
  have hr : rightP ((1 : Int), (2 : Int), l) = true := by simp [rightP]; omega
  have he : addErr id [] ((1 : Int), (2 : Int), l) = 0 := by simp [addErr, hr, lastT]
  unfold addL
  rw [if_pos he]
  rfl
theorem na_put (l : List Int) (h : l.length ≤ 200) : putL id [((1 : Int), (2 : Int), l)] 1 1 [((1 : Int), (2 : Int), l)] = naQ l := by
  have hr : rightP ((1 : Int), (2 : Int), l) = true := by simp [rightP]; omega
  have h1 : putBad id 1 1 [((1 : Int), (2 : Int), l)] = false := by simp [putBad, chain, hr]
  have h2 : putHas id [((1 : Int), (2 : Int), l)] 1 1 = true := by simp [putHas, termB, termT]
  unfold putL
  rw [h1, h2, if_neg (by decide), if_pos rfl]
  simp [putC, agree, naQ]
theorem na_get (l : List Int) : getQ (naQ l) 1 = (1, 2, l) ∧ getBQ (naQ l) 1 = true := by
  constructor
  · rfl
  · simp [getBQ, naQ]
theorem na_from (l : List Int) : fromQ (naQ l) 1 9 = naQ l := by
  unfold fromQ naQ
  rw [if_neg (by decide)]
  rfl
theorem two_of {l' : List En} {l : List Int} (h : l'.map En.pe = naQ l) : ∃ x1 x2 : En, l' = [x1, x2] ∧ x1.pe = (1, 2, l) ∧ x2.pe = (1, 2, l) := by
  match l', h with
  | [x1, x2], h => simp only [naQ, List.map_cons, List.map_nil, List.cons.injEq, and_true] at h; exact ⟨x1, x2, rfl, h.1, h.2⟩
  | [], h => simp [naQ] at h
  | [_], h => simp [naQ] at h
  | _ :: _ :: _ :: _, h => simp [naQ] at h
/-- the first byte of a body that may be written -/
theorem EnU.first {w1 : World} {Av : Nat → Prop} {t k : Int} {A : Option Addr} {m c : Nat} {y : List Int} {b0 : Int} (h : EnU w1 Av ⟨t, k, A, m, c, y⟩) (h0 : y[0]? = some b0) : ∃ g off, A = some ⟨g, off, none⟩ ∧ g < w1.heap.size ∧ ¬ Av g ∧ w1.cell? ⟨g, off, none⟩ = some (.int .u8 b0) ∧ w1.frozen? ⟨g, off, none⟩ = false := by
  have hl := h.ok.len
  simp only at hl
  have hy := (List.getElem?_eq_some_iff.1 h0).1
  obtain ⟨g, off, e, h1, h2, h3⟩ := h.fr (by simp only; omega)
  simp only at e
  subst e
  obtain ⟨b', off', e, _, _, hr⟩ := h.ok.body.at_ (by simp only; omega)
  simp only at e
  cases e
  have := hr 0 (.int .u8 b0) (by simp [ubs, h0])
  rw [Nat.add_zero] at this
  exact ⟨_, _, rfl, h1, h2, this, h3 _⟩
set_option maxHeartbeats 8000000 in
set_option maxRecDepth 100000 in
theorem noAlias_any (w : World) (A : Option Addr) (m c : Nat) (l : List Int) (hS : Sl w (fun _ => False) 1 A m (ubs l)) (hW : ∀ b ∈ l, 0 ≤ b ∧ b ≤ 255) (hc : m ≤ c) :
    Calls Try.prog 8 #[.slice A m c] w (PlainPost w true) := by
  have hl : l.length = m := by have := hS.len; simpa [ubs] using this
  have HS := hid (fun W (hk : Same w W) => hS.same hk)
  have HWK := hid (wakes_any w)
  have HWB := hid hW
  clear hS hW
  by_cases h0 : m = 0 ∨ 200 < m
  · rcases h0 with h0 | h0
    all_goals
      go_enter Try.func8, Try.ntmps8
      go_wp2_with fail
      refine HWK.out.mono ?_
      rintro e w1 ⟨rfl, hk1⟩
      go_wp2_with fail
      go_ret
      exact ⟨rfl, hk1⟩
  · have h1 : 0 < m := by omega
    have h2 : m ≤ 200 := by omega
    obtain ⟨b0, hb0⟩ := get_some (l := l) (k := 0) (by omega)
    have hub : (ubs l)[0]? = some (.int .u8 b0) := by simp [ubs, hb0]
    clear h0
    have hm0 : ((m : Int) == 0) = false := by simp; omega
    go_enter Try.func8, Try.ntmps8
    go_wp2_with (first
      | (go_at_call 11; refine HWK.out.mono ?_; rintro e w1 ⟨rfl, hk1⟩
         have HK1 := hid hk1
         have hz1 := hk1.size
         have HO1 := hid (own_lit0 w1 5 1)
         have HSR1 := hid ((HS.out _ (hk1.alloc (.cells #[] 5))).src (Keep.refl (fun _ => False) _))
         clear hk1)
      | (at_builtin
         refine E44.law2 (.tmp 19) (.tmp 20) (.slice (some ⟨w1.heap.size, 0, none⟩) 0 0) A m c rfl rfl rfl rfl w1.heap.size 0 [] (ubs l) m _ (Nat.zero_add m) rfl HO1.out (by simp [ubs, hl]) HSR1.out (ubs_one _) (by omega) (by unfold maxLen; omega) (by simp) ?_
         intro A2 c2 w2 ho hg hw
         have hk2 := (HK1.out.alloc (.cells #[] 5)).app HO1.out hg (fun g h1 h2 => by omega)
         have HK2 := hid hk2
         obtain ⟨g1, cur1, rfl, hg1, hB1, hm1, _⟩ := ho.open_ h1
         have hg1l := hB1.lt
         have HO2 := hid ho
         have HO2b := hid (own_lit0 w2 5 1)
         have HSR2 := hid ((HS.out _ (hk2.alloc (.cells #[] 5))).src (Keep.refl (fun _ => False) _))
         clear ho hg hw hk2 hB1)
      | (at_builtin
         refine E44.law2 (.tmp 22) (.tmp 23) (.slice (some ⟨w2.heap.size, 0, none⟩) 0 0) A m c rfl rfl rfl rfl w2.heap.size 0 [] (ubs l) m _ (Nat.zero_add m) rfl HO2b.out (by simp [ubs, hl]) HSR2.out (ubs_one _) (by omega) (by unfold maxLen; omega) (by simp) ?_
         intro A3 c3 w3 ho hg hw
         have hk23 : Same w2 w3 := ((Keep.refl _ w2).alloc (.cells #[] 5)).app HO2b.out hg (fun g h1 h2 => by omega)
         have HK3 := hid (HK2.out.then hk23)
         have hz3 := hk23.size
         obtain ⟨g2, cur2, rfl, hg2, hB2, hm2, _⟩ := ho.open_ h1
         have hg2l := hB2.lt
         have HOa := hid (HO2.out.keep hk23 (fun _ _ _ f => f))
         have HOb := hid ho
         have HSa := hid ((HOa.out.sl (Av := fun _ => False) (fun _ _ f => f)).old)
         have HSb := hid ((HOb.out.sl (Av := fun _ => False) (fun _ _ f => f)).old)
         clear ho hg hw hk23 hB2)
      | (go_at_call 17; refine (new_any _).mono ?_; rintro e w4 ⟨rfl, rfl⟩
         have ha := append_at (w3.alloc (.cells #[.slice none 0 0] 73)) (fun i => i < w3.heap.size) (fun i hi => by simp; omega) w3.heap.size [] ⟨_, _, _, _, IsLog.made w3 _ (fun i h => h), rfl⟩ (by simp) ⟨1, 2, some ⟨g1, 0, none⟩, m, c2, l⟩ (fun _ => False)
           ⟨(HSa.out.wide (fun _ _ f => f.elim)).same ((Keep.refl _ w3).alloc _), HWB.out, hm1⟩
         simp only [En.pe] at ha
         rw [na_add l (by omega)] at ha
         unfold En.val at ha
         have HA := hid ha
         clear ha)
      | (go_at_call 29; refine HA.out.mono ?_; rintro e w5 ⟨rfl, hl5, hk5⟩
         have hk35 : Keep (fun i => w3.heap.size ≤ i) w3 w5 := ((Keep.refl _ w3).alloc (.cells #[.slice none 0 0] 73)).trans hk5 (fun i hi hs => by omega)
         have HK5 := hid hk35
         have hz5 := hk35.size
         have hka := (Keep.refl (fun _ => False) w5).alloc (.cells #[.int .i64 1, .int .i64 2, .slice (some ⟨g2, 0, none⟩) m c3] 46)
         have hp := after_at (w5.alloc (.cells #[.int .i64 1, .int .i64 2, .slice (some ⟨g2, 0, none⟩) m c3] 46)) (fun i => i < w3.heap.size ∨ i = w5.heap.size) (fun i hi => by simp; omega) w3.heap.size [(1, 2, l)]
           ((hl5.wide (fun i hi hs => hs.elim (fun h => h) (fun h => by omega))).same hka) (by simp) [⟨1, 2, some ⟨g2, 0, none⟩, m, c3, l⟩] 1 1 (some ⟨w5.heap.size, 0, none⟩)
           ⟨rfl, Sl.of_blk (Blk.made w5 46 #[.int .i64 1, .int .i64 2, .slice (some ⟨g2, 0, none⟩) m c3]) rfl (fun hn => hn (.inr rfl)), by
             intro e he
             simp at he
             subst he
             exact ⟨((HSb.out.keep HK5.out (fun i _ hs => hs)).wide (fun i _ hs => by omega)).same hka, HWB.out, hm2⟩, by omega⟩ (by omega) 1 1
         simp only [List.map_cons, List.map_nil, En.pe] at hp
         rw [na_put l (by omega)] at hp
         have HP := hid hp
         clear hl5 hk5 hk35 hp hka)
      | (go_at_call 16; refine HP.out.mono ?_; rintro e w6 ⟨rfl, hl6, hk6⟩
         have hk36 : Keep (fun i => w3.heap.size ≤ i) w3 w6 := (HK5.out.alloc (.cells #[.int .i64 1, .int .i64 2, .slice (some ⟨g2, 0, none⟩) m c3] 46)).trans hk6 (fun i hi hs => by omega)
         have HK6 := hid (HK3.out.trans hk36 (fun i hi hs => by have := HK3.out.size; omega))
         have hz6 := hk36.size
         have a1 : w6.cell? ⟨g1, 0, none⟩ = some (.int .u8 b0) := (hk36.cell (p := ⟨g1, 0, none⟩) (by simp only; omega) (by simp only; omega)).trans (HOa.out.cell hub)
         have a2 : w6.cell? ⟨g2, 0, none⟩ = some (.int .u8 b0) := (hk36.cell (p := ⟨g2, 0, none⟩) (by simp only; omega) (by simp only; omega)).trans (HOb.out.cell hub)
         have f1 : w6.frozen? ⟨g1, 0, none⟩ = false := (hk36.frozen (p := ⟨g1, 0, none⟩) (by simp only; omega) (by simp only; omega)).trans (HOa.out.free h1 0)
         have f2 : w6.frozen? ⟨g2, 0, none⟩ = false := (hk36.frozen (p := ⟨g2, 0, none⟩) (by simp only; omega) (by simp only; omega)).trans (HOb.out.free h1 0)
         have hne : g1 < g2 := by omega
         have hz0 := HK3.out.size
         have hs1 : w.heap.size ≤ g1 ∧ (g1 < w3.heap.size ∨ w6.heap.size ≤ g1) := ⟨by omega, .inl (by omega)⟩
         have hs2 : w.heap.size ≤ g2 ∧ (g2 < w3.heap.size ∨ w6.heap.size ≤ g2) := ⟨by omega, .inl (by omega)⟩
         have hLL : LogAt w6 (fun i => i < w3.heap.size ∨ w6.heap.size ≤ i) w3.heap.size (naQ l) := hl6.wide (fun i hi hs => hs.elim (fun h => .inl h) (fun h => by omega))
         have HG := hid (fun W (hk : Keep (fun i => w.heap.size ≤ i ∧ (i < w3.heap.size ∨ w6.heap.size ≤ i)) w6 W) => getU_at W _ _ _ (hLL.keep hk (fun i _ hs => hs.2)) (by simp [naQ]) 1)
         have HSL := hid (fun W (hk : Keep (fun i => w.heap.size ≤ i ∧ (i < w3.heap.size ∨ w6.heap.size ≤ i)) w6 W) => sliceU_at W _ _ _ (hLL.keep hk (fun i _ hs => hs.2)) (by simp [naQ]) 1 9)
         rw [(na_get l).1, (na_get l).2] at HG
         rw [na_from] at HSL
         clear hl6 hk6 hk36 hLL HA HP HK5 HO2 HO2b HSR2 HSR1 HO1 HK1 HK2)
      | (go_at_call 22; refine (HG.out _ (((Keep.refl _ w6).setCell (fun _ => hs1) _).setCell (fun _ => hs2) _)).mono ?_; rintro e w8 ⟨x, rfl, hx, hq, hk8⟩
         have hk68 := (((Keep.refl (fun i => w.heap.size ≤ i ∧ (i < w3.heap.size ∨ w6.heap.size ≤ i)) w6).setCell (p := ⟨g1, 0, none⟩) (fun _ => hs1) _).setCell (p := ⟨g2, 0, none⟩) (fun _ => hs2) _).then hk8
         obtain ⟨t8, k8, A8, m8, c8, y8⟩ := x
         simp only [En.pe, Prod.mk.injEq] at hq
         obtain ⟨rfl, rfl, hy8⟩ := hq
         rw [hy8] at hx
         obtain ⟨g3, off3, rfl, hg3, hn3, d3, e3⟩ := hx.first hb0
         obtain rfl : m = m8 := by have := hx.ok.len; simp only at this; omega
         simp only [World.size_setCell] at hn3
         have hka := (Keep.refl (fun _ => False) w8).alloc (.cells #[.int .i64 1, .int .i64 2, .slice (some ⟨g3, off3, none⟩) m c8] 46)
         have d3' := (hka.cell (p := ⟨g3, off3, none⟩) hg3 (fun f => f)).trans d3
         have e3' := (hka.frozen (p := ⟨g3, off3, none⟩) hg3 (fun f => f)).trans e3
         have hb8 := Blk.made w8 46 #[.int .i64 1, .int .i64 2, .slice (some ⟨g3, off3, none⟩) m c8]
         have r0 : (w8.alloc (.cells #[.int .i64 1, .int .i64 2, .slice (some ⟨g3, off3, none⟩) m c8] 46)).cell? ⟨w8.heap.size, 0, none⟩ = some (.int .i64 1) := hb8.at_ 0
         have r1 : (w8.alloc (.cells #[.int .i64 1, .int .i64 2, .slice (some ⟨g3, off3, none⟩) m c8] 46)).cell? ⟨w8.heap.size, 1, none⟩ = some (.int .i64 2) := hb8.at_ 1
         have r2 : (w8.alloc (.cells #[.int .i64 1, .int .i64 2, .slice (some ⟨g3, off3, none⟩) m c8] 46)).cell? ⟨w8.heap.size, 2, none⟩ = some (.slice (some ⟨g3, off3, none⟩) m c8) := hb8.at_ 2
         have hg3lt : g3 < w8.heap.size := hg3
         have HK8 := hid hk68
         have hz8 := hk68.size
         have hs3 : w.heap.size ≤ g3 ∧ (g3 < w3.heap.size ∨ w6.heap.size ≤ g3) := ⟨by omega, .inr (by omega)⟩
         unfold En.val
         clear hk68 hk8 hx hka d3 e3 hb8 HG)
      | (go_at_call 20; refine (HSL2.out _ (HK11.out.setCell (fun _ => hs5) _)).mono ?_; rintro e w14 ⟨Z, n14, d14, l2, rfl, hls2, _, hq14, hk14⟩
         have hk14' := (HK11.out.setCell (p := ⟨g5, off5, none⟩) (fun _ => hs5) _).then hk14
         have hk14w := HK6.out.trans hk14' (fun i hi hs => by omega)
         have hka := (Keep.refl (fun _ => False) w14).alloc (.cells #[.int .i64 1, .int .i64 2, .slice A m c, .int .i64 1, .int .i64 2, .slice A m c] 46)
         have HK14 := hid (hk14w.then hka)
         obtain ⟨y1, y2, rfl, _, _⟩ := two_of hq14
         obtain rfl : 2 = n14 := hls2.len
         have hq := same_at (w14.alloc (.cells #[.int .i64 1, .int .i64 2, .slice A m c, .int .i64 1, .int .i64 2, .slice A m c] 46)) _ (fun _ => False) Z (some ⟨w14.heap.size, 0, none⟩) 2 d14 2 2 (naQ l) (naQ l) ⟨_, hls2.same hka, hq14⟩
           ⟨[⟨1, 2, A, m, c, l⟩, ⟨1, 2, A, m, c, l⟩], ⟨rfl, Sl.of_blk (Blk.made w14 46 #[.int .i64 1, .int .i64 2, .slice A m c, .int .i64 1, .int .i64 2, .slice A m c]) rfl (fun f => f), by
             intro e he
             simp at he
             subst he
             exact ⟨HS.out _ (hk14w.then hka), HWB.out, hc⟩, Nat.le_refl _⟩, rfl⟩ (by omega) (by omega)
         rw [decide_eq_true rfl] at hq
         have HQ := hid hq
         clear hk14 hk14' hk14w hka hls2 hq14 hq)
      | (go_at_call 20; refine (HSL.out _ ((HK8.out.setCell (fun _ => hs3) _).alloc _)).mono ?_; rintro e w11 ⟨Y, n11, d11, l1, rfl, hls, heu, hq11, hk11⟩
         have hk11' := ((HK8.out.setCell (p := ⟨g3, off3, none⟩) (fun _ => hs3) _).alloc _).then hk11
         obtain ⟨x1, x2, rfl, hx1, hx2⟩ := two_of hq11
         obtain rfl : 2 = n11 := hls.len
         have heu2 := heu x2 (by simp)
         obtain ⟨bY, oY, rfl, _, _, s2⟩ := hls.at_ (i := 1) (e := x2) rfl
         obtain ⟨t9, k9, A9, m9, c9, y9⟩ := x2
         simp only [En.pe, Prod.mk.injEq] at hx2
         obtain ⟨rfl, rfl, hy9⟩ := hx2
         rw [hy9] at heu2
         obtain ⟨g5, off5, rfl, hg5, hn5, d5, e5⟩ := heu2.first hb0
         obtain rfl : m = m9 := by have := heu2.ok.len; simp only at this; omega
         simp only [World.size_alloc, World.size_setCell] at hn5
         have s2' : w11.cell? ⟨bY, oY + 3 + 2, none⟩ = some (.slice (some ⟨g5, off5, none⟩) m c9) := s2
         have s2'' : w11.cell? ⟨bY, oY + 5, none⟩ = some (.slice (some ⟨g5, off5, none⟩) m c9) := s2
         have HK11 := hid hk11'
         have hz11 := hk11'.size
         have hs5 : w.heap.size ≤ g5 ∧ (g5 < w3.heap.size ∨ w6.heap.size ≤ g5) := ⟨by omega, .inr (by omega)⟩
         have HSL2 := HSL
         clear hk11 hk11' hls heu heu2 hq11 hx1)
      | (go_at_call 21; refine HQ.out.mono ?_; rintro e w15 ⟨rfl, hk15⟩
         have HK15 := hid (HK14.out.then hk15)
         clear hk15))
    go_ret
    exact ⟨rfl, HK15.out⟩
end Go.Proofs.Ytbellndcgagclaa

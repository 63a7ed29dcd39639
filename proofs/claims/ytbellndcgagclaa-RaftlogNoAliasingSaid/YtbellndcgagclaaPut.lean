import Derived.Test.YtbellndcgagclaaFrom
namespace Go.Proofs.Ytbellndcgagclaa
open Go.RowKit

def PutPost (w : World) (Av : Nat → Prop) (q : List En) (ok : Bool) (x : Int) (e : Ending) (w' : World) : Prop :=
  ∃ Y n d, e = .returned (.tuple #[.slice Y n d, .bool ok, .int .i64 x]) ∧ Ls w' Av Y n d q ∧ Same w w'
def PutQ (w : World) (Av : Nat → Prop) (l es : List En) (prev term : Int) : Ending → World → Prop := PutPost w Av (putL En.pe l prev term es) (putOk En.pe l prev term es) (putE En.pe prev term es)
/-- so far the entries are in order -/
def ChainUpto (t : Int) (es : List En) (k : Nat) : Prop := chain En.pe t es = chain En.pe (floorT En.pe t es k) (es.drop k)
theorem ChainUpto.zero (t : Int) (es : List En) : ChainUpto t es 0 := by simp [ChainUpto, floorT]
theorem ChainUpto.succ {t : Int} {es : List En} {k : Nat} {e : En} (h : ChainUpto t es k) (he : es[k]? = some e) (hr : rightP e.pe = true) (ht : floorT En.pe t es k ≤ e.t) : ChainUpto t es (k + 1) := by
  unfold ChainUpto at h ⊢
  rw [h, chain_step En.pe he, floor_step En.pe he, hr]
  simp [En.pe, ht]
theorem ChainUpto.no1 {t : Int} {es : List En} {k : Nat} {e : En} (h : ChainUpto t es k) (he : es[k]? = some e) (hr : rightP e.pe = false) : chain En.pe t es = false := by
  rw [h, chain_step En.pe he, hr]; rfl
theorem ChainUpto.no2 {t : Int} {es : List En} {k : Nat} {e : En} (h : ChainUpto t es k) (he : es[k]? = some e) (ht : e.t < floorT En.pe t es k) : chain En.pe t es = false := by
  rw [h, chain_step En.pe he]
  have : ¬ floorT En.pe t es k ≤ e.pe.1 := by simp only [En.pe]; omega
  simp [this]
theorem ChainUpto.all {t : Int} {es : List En} (h : ChainUpto t es es.length) : chain En.pe t es = true := by
  rw [h]; simp [chain]
theorem putC_stop {l es : List En} {n k : Nat} (h : agree En.pe l n es = k) (hk : k < es.length) : putC En.pe l n es = l.take (n + k) ++ es.drop k := by
  unfold putC; rw [h, if_pos hk]
theorem putC_all {l es : List En} {n : Nat} (h : agree En.pe l n es = es.length) : putC En.pe l n es = l := by
  unfold putC; rw [h, if_neg (by omega)]
theorem Ls.of_own {w : World} {Av : Nat → Prop} {base N d : Nat} {A : Option Addr} {q : List En} (ho : Own w base 46 3 (.slice A N d) N (enFlat q)) (hb : ∀ i, Av i → i < base) (hel : ∀ e ∈ q, EnOk w Av e) (hl : q.length = N) : Ls w Av A N d q :=
  ⟨hl, ho.sl (fun g hg h => by have := hb g h; omega), hel, ho.cap⟩
/-- the cells of es[q:] -/
theorem Ls.srcDrop {w : World} {Av : Nat → Prop} {b off n c : Nat} {l : List En} (h : Ls w Av (some ⟨b, off, none⟩) n c l) (q : Nat) : 0 < n - q → ∃ ad, (some ⟨b, off + q * 3, none⟩ : Option Addr) = some ad ∧ ∀ j u, (enFlat (l.drop q))[j]? = some u → w.cell? (ad.add j) = some u := by
  intro hn
  obtain ⟨b', off', e, _, _, hr⟩ := h.sl.at_ (by omega)
  cases e
  refine ⟨_, rfl, fun j u hu => ?_⟩
  rw [add_blk, Nat.add_assoc]
  refine hr _ _ ?_
  rw [← enFlat_drop, List.getElem?_drop] at hu
  exact hu
theorem Ls.src0 {w : World} {Av : Nat → Prop} {b off n c : Nat} {l : List En} (h : Ls w Av (some ⟨b, off, none⟩) n c l) : 0 < n → ∃ ad, (some ⟨b, off, none⟩ : Option Addr) = some ad ∧ ∀ j u, (enFlat l)[j]? = some u → w.cell? (ad.add j) = some u := h.sl.src (Keep.refl _ w)
set_option maxHeartbeats 16000000 in
set_option maxRecDepth 100000 in
theorem rput_any (w : World) (Av : Nat → Prop) (hAv : ∀ i, Av i → i < w.heap.size) (X Z : Option Addr) (n c m z : Nat) (l es : List En) (h : Ls w Av X n c l) (h2 : Ls w Av Z m z es) (hn : n ≤ 1000) (hm : m ≤ 1000) (prev term : Int) :
    Calls Try.prog 40 #[.slice X n c, .int .i64 prev, .int .i64 term, .slice Z m z] w (PutQ w Av l es prev term) := by
  have Hl := hid h.len
  have Hm := hid h2.len
  have HL := hid h
  have HM := hid h2
  clear h h2
  have hbad : Hid (putBad En.pe prev term es = true → ∀ W, Same w W → PutQ w Av l es prev term (.returned (.tuple #[.slice X n c, .bool false, .int .i64 1])) W) := hid (fun hb W hs => by
    refine ⟨X, n, c, by simp [putOk, putE, hb], ?_, hs⟩
    rw [show putL En.pe l prev term es = l by simp [putL, hb]]
    exact HL.out.same hs)
  have hhas : Hid (putBad En.pe prev term es = false → putHas En.pe l prev term = false → ∀ W, Same w W → PutQ w Av l es prev term (.returned (.tuple #[.slice X n c, .bool false, .int .i64 0])) W) := hid (fun hb hh W hs => by
    refine ⟨X, n, c, by simp [putOk, putE, hb, hh], ?_, hs⟩
    rw [show putL En.pe l prev term es = l by simp [putL, hb, hh]]
    exact HL.out.same hs)
  have hgood : Hid (putBad En.pe prev term es = false → putHas En.pe l prev term = true → ∀ W Y k d, Same w W → Ls W Av Y k d (putC En.pe l prev.toNat es) → PutQ w Av l es prev term (.returned (.tuple #[.slice Y k d, .bool true, .int .i64 0])) W) := hid (fun hb hh W Y k d hs hL => by
    refine ⟨Y, k, d, by simp [putOk, putE, hb, hh], ?_, hs⟩
    rw [show putL En.pe l prev term es = putC En.pe l prev.toNat es by simp [putL, hb, hh]]
    exact hL)
  by_cases h0 : prev < 0 ∨ term < 0
  · have hb := hid (show putBad En.pe prev term es = true by rcases h0 with h0 | h0 <;> simp [putBad, h0])
    by_cases h1 : prev < 0
    all_goals
      go_enter Try.func40, Try.ntmps40
      go_wp2_with fail
      go_ret3
      exact hbad.out hb.out _ (Keep.refl _ _)
  · have h0a : 0 ≤ prev := by omega
    have h0b : 0 ≤ term := by omega
    clear h0
    go_enter Try.func40, Try.ntmps40
    go_wp2_with fail
    go_loopw [11, 12] (fun t i wr => ∃ k : Nat, ∃ T : Int, k ≤ m ∧ i = .int .i64 k ∧ t = .int .i64 T ∧ Hid (T = floorT En.pe term es k) ∧ Hid (ChainUpto term es k) ∧ Hid (Same w wr)) (fun _ i _ => m - (RowKit.intOf i).toNat)
    case atStart => exact ⟨0, term, by omega, rfl, rfl, hid rfl, hid (ChainUpto.zero _ _), hid (Keep.refl _ _)⟩
    case round =>
      obtain ⟨k, T, hk, rfl, rfl, HF, HT, HK⟩ := hrel
      by_cases hkm : k < m
      · obtain ⟨e, he⟩ := get_some (l := es) (k := k) (by have := Hm.out; omega)
        have HE := hid he
        obtain ⟨b, off, rfl, c0, c1, c2⟩ := (HM.out.same HK.out).at_ he
        have HR := hid (right_any wr Av e (((HM.out.same HK.out).el e (List.mem_of_getElem? he))))
        have hk1 : (k : Int) < (m : Int) := by omega
        unfold En.val at HR
        clear he
        by_cases hr : rightP e.pe = true
        · rw [hr] at HR
          by_cases ht : e.t < T
          · have hb := hid (show putBad En.pe prev term es = true by
              have := HT.out.no2 HE.out (by have := HF.out; omega)
              simp [putBad, this])
            go_wp2_with (first
              | (go_at_call 31; refine HR.out.mono ?_; rintro e' w2 ⟨rfl, hk2⟩
                 obtain ⟨b', off', e1, d0, d1, d2⟩ := (HM.out.same (HK.out.then hk2)).at_ HE.out
                 cases e1
                 have HK2 := hid (HK.out.then hk2)
                 clear hk2))
            go_ret3
            exact hbad.out hb.out _ HK2.out
          · have ht' : T ≤ e.t := by omega
            have HT' := hid (HT.out.succ HE.out hr (by have := HF.out; omega))
            have HF' := hid (floor_step En.pe HE.out (t := term))
            go_wp2_with (first
              | (go_at_call 31; refine HR.out.mono ?_; rintro e' w2 ⟨rfl, hk2⟩
                 obtain ⟨b', off', e1, d0, d1, d2⟩ := (HM.out.same (HK.out.then hk2)).at_ HE.out
                 cases e1
                 have HK2 := hid (HK.out.then hk2)
                 clear hk2))
            go_roundw
            case rel => exact ⟨k + 1, e.t, by omega, by go_num, rfl, hid (HF'.out.symm), HT', HK2⟩
            case measure => simp [RowKit.intOf]; omega
        · have hr' : rightP e.pe = false := by simpa using hr
          rw [hr'] at HR
          have hb := hid (show putBad En.pe prev term es = true by
            have := HT.out.no1 HE.out hr'
            simp [putBad, this])
          clear hr hr'
          go_wp2_with (first
            | (go_at_call 31; refine HR.out.mono ?_; rintro e' w2 ⟨rfl, hk2⟩
               have HK2 := hid (HK.out.then hk2)
               clear hk2))
          go_ret3
          exact hbad.out hb.out _ HK2.out
      · obtain rfl : k = m := by omega
        have hb := hid (show putBad En.pe prev term es = false by
          have h1 := HT.out
          rw [← Hm.out] at h1
          have := h1.all
          simp [putBad, this]
          omega)
        have HR := hid (rterm_any wr Av X n c l (HL.out.same HK.out) hn prev)
        by_cases hB : termB l prev = true
        · rw [hB] at HR
          obtain ⟨P, rfl⟩ : ∃ P : Nat, prev = P := ⟨prev.toNat, by omega⟩
          have hPn : P ≤ n := by
            have := hB
            simp only [termB, Bool.and_eq_true, decide_eq_true_eq] at this
            have := Hl.out
            omega
          by_cases hT : termT En.pe l P = term
          · have hh := hid (show putHas En.pe l P term = true by simp [putHas, hB, hT])
            rw [hT] at HR
            clear hB hT hbad hhas HT HF
            go_wp2_with (first
              | (go_at_call 24; refine HR.out.mono ?_; rintro e' w2 ⟨rfl, hk2⟩
                 have HK2 := hid (HK.out.then hk2)
                 clear hk2))
            clear HK HR
            go_loopw [16] (fun i wr => ∃ q : Nat, q ≤ k ∧ P + q ≤ n ∧ i = .int .i64 q ∧ Hid (Agree En.pe l es P q) ∧ Hid (Same w wr)) (fun i _ => k - (RowKit.intOf i).toNat)
            case atStart => exact ⟨0, by omega, by omega, rfl, hid (Agree.zero _ _ _ _), HK2⟩
            case round =>
              obtain ⟨q, hq, hPqn, rfl, HA, HK⟩ := hrel
              by_cases hqk : q < k
              · obtain ⟨e, he⟩ := get_some (l := es) (k := q) (by have := Hm.out; omega)
                have HE := hid he
                obtain ⟨b, off, rfl, c0, c1, c2⟩ := (HM.out.same HK.out).at_ he
                have hq1 : (q : Int) < (k : Int) := by omega
                clear he
                by_cases hPq : P + q < n
                · obtain ⟨a, ha⟩ := get_some (l := l) (k := P + q) (by have := Hl.out; omega)
                  have HAa := hid ha
                  obtain ⟨b1, o1, rfl, d0, d1, d2⟩ := (HL.out.same HK.out).at_ ha
                  have HC := hid (alike_any wr.drew Av a e (((HL.out.same HK.out).el a (List.mem_of_getElem? ha)).same (Keep.refl _ wr).drew) (((HM.out.same HK.out).el e (List.mem_of_getElem? HE.out)).same (Keep.refl _ wr).drew))
                  have hsum : IntKind.i64.wrap ((P : Int) + (q : Int)) = (P : Int) + (q : Int) := IntWalk.i64_in _ (by omega)
                  have hs0 : (0 : Int) ≤ (P : Int) + (q : Int) := by omega
                  have hs1 : ((P : Int) + (q : Int)).toNat = P + q := by omega
                  have hq0 : (0 : Int) ≤ (q : Int) := by omega
                  have hq4 : decide ((n : Int) ≤ (P : Int) + (q : Int)) = false := by simp; omega
                  have hq3 : (P : Int) + (q : Int) < (n : Int) := by omega
                  unfold En.val at HC
                  clear ha
                  by_cases hp : a.pe = e.pe
                  · have hpe : peq a.pe e.pe = true := by simp [peq, hp]
                    rw [hpe] at HC
                    have HA' := hid (HA.out.succ (p := En.pe) HE.out HAa.out hp)
                    clear hp hpe
                    go_wp2_with fail
                    go_region_held3 (fun W => W.cell? ⟨b1, o1 + (P + q) * 3, none⟩ = some (.int .i64 a.t) ∧ W.cell? ⟨b1, o1 + (P + q) * 3 + 1, none⟩ = some (.int .i64 a.k) ∧ W.cell? ⟨b1, o1 + (P + q) * 3 + 2, none⟩ = some (.slice a.A a.m a.c) ∧ W.cell? ⟨b, off + q * 3, none⟩ = some (.int .i64 e.t) ∧ W.cell? ⟨b, off + q * 3 + 1, none⟩ = some (.int .i64 e.k) ∧ W.cell? ⟨b, off + q * 3 + 2, none⟩ = some (.slice e.A e.m e.c))
                      (first | exact ⟨d0, d1, d2, c0, c1, c2⟩ | exact hS2.out | go_keep)
                      (first
                        | (go_at_call 25; refine HC.out.mono ?_; rintro e' w2 ⟨rfl, hk2⟩
                           have HK2 := hid (HK.out.then (((Keep.refl (fun _ => False) wr).drew).trans hk2 (fun _ _ f => f)))
                           have hS2 : Hid (w2.cell? ⟨b1, o1 + (P + q) * 3, none⟩ = some (.int .i64 a.t) ∧ w2.cell? ⟨b1, o1 + (P + q) * 3 + 1, none⟩ = some (.int .i64 a.k) ∧ w2.cell? ⟨b1, o1 + (P + q) * 3 + 2, none⟩ = some (.slice a.A a.m a.c) ∧ w2.cell? ⟨b, off + q * 3, none⟩ = some (.int .i64 e.t) ∧ w2.cell? ⟨b, off + q * 3 + 1, none⟩ = some (.int .i64 e.k) ∧ w2.cell? ⟨b, off + q * 3 + 2, none⟩ = some (.slice e.A e.m e.c)) := by
                             obtain ⟨x1, y1, e1, g0, g1, g2⟩ := (HL.out.same HK2.out).at_ HAa.out
                             obtain ⟨x2, y2, e2, k0, k1, k2⟩ := (HM.out.same HK2.out).at_ HE.out
                             cases e1; cases e2
                             exact hid ⟨g0, g1, g2, k0, k1, k2⟩
                           clear hk2))
                    go_wp2_with fail
                    go_roundw
                    case rel => exact ⟨q + 1, by omega, by omega, by go_num, HA', HK2⟩
                    case measure => simp [RowKit.intOf]; omega
                  · have hpe : peq a.pe e.pe = false := by simp [peq, hp]
                    rw [hpe] at HC
                    have HS := hid (putC_stop (HA.out.stop (p := En.pe) HE.out (by rw [HAa.out]; simpa using hp)) (by have := Hm.out; omega))
                    clear hp hpe
                    go_wp2_with fail
                    go_region_held3 (fun W => W.cell? ⟨b1, o1 + (P + q) * 3, none⟩ = some (.int .i64 a.t) ∧ W.cell? ⟨b1, o1 + (P + q) * 3 + 1, none⟩ = some (.int .i64 a.k) ∧ W.cell? ⟨b1, o1 + (P + q) * 3 + 2, none⟩ = some (.slice a.A a.m a.c) ∧ W.cell? ⟨b, off + q * 3, none⟩ = some (.int .i64 e.t) ∧ W.cell? ⟨b, off + q * 3 + 1, none⟩ = some (.int .i64 e.k) ∧ W.cell? ⟨b, off + q * 3 + 2, none⟩ = some (.slice e.A e.m e.c))
                      (first | exact ⟨d0, d1, d2, c0, c1, c2⟩ | exact hS2.out | go_keep)
                      (first
                        | (go_at_call 25; refine HC.out.mono ?_; rintro e' w2 ⟨rfl, hk2⟩
                           have HK2 := hid (HK.out.then (((Keep.refl (fun _ => False) wr).drew).trans hk2 (fun _ _ f => f)))
                           have hS2 : Hid (w2.cell? ⟨b1, o1 + (P + q) * 3, none⟩ = some (.int .i64 a.t) ∧ w2.cell? ⟨b1, o1 + (P + q) * 3 + 1, none⟩ = some (.int .i64 a.k) ∧ w2.cell? ⟨b1, o1 + (P + q) * 3 + 2, none⟩ = some (.slice a.A a.m a.c) ∧ w2.cell? ⟨b, off + q * 3, none⟩ = some (.int .i64 e.t) ∧ w2.cell? ⟨b, off + q * 3 + 1, none⟩ = some (.int .i64 e.k) ∧ w2.cell? ⟨b, off + q * 3 + 2, none⟩ = some (.slice e.A e.m e.c)) := by
                             obtain ⟨x1, y1, e1, g0, g1, g2⟩ := (HL.out.same HK2.out).at_ HAa.out
                             obtain ⟨x2, y2, e2, k0, k1, k2⟩ := (HM.out.same HK2.out).at_ HE.out
                             cases e1; cases e2
                             exact hid ⟨g0, g1, g2, k0, k1, k2⟩
                           clear hk2))
                    have hcap1 := HL.out.cap
                    have hcap2 := HM.out.cap
                    have hO1 := hid (World.ownsRow_made (base := w.heap.size) (e := 46) (size := 3) w2 #[] 0 HK2.out.size (by simp [maxLen]) rfl)
                    have hS1 := hid (((HL.out.take (P + q) hPqn).sl.same HK2.out).src ((Keep.refl _ w2).alloc (.cells #[] 46)))
                    have hL1 := hid (show (enFlat (l.take (P + q))).length = (P + q) * 3 by rw [enFlat_len, List.length_take]; have := Hl.out; omega)
                    have hL2 := hid (show (enFlat (es.drop q)).length = (k - q) * 3 by rw [enFlat_len, List.length_drop, Hm.out])
                    have hO0 := hid (World.ownsRow_made (base := (w2).heap.size) (e := 46) (size := 3) w2 #[] 0 (Nat.le_refl _) (by simp [maxLen]) rfl)
                    have hKe := hid ((Keep.refl (fun _ => False) w2).alloc (.cells #[] 46))
                    go_wp2_with (first
                      | (at_builtin
                         refine E26.law2 (.tmp 94) (.tmp 99) (.slice (some ⟨(w2).heap.size, 0, none⟩) 0 0) (some ⟨b1, o1, none⟩) (P + q) c rfl rfl rfl rfl w.heap.size 0 [] (enFlat (l.take (P + q))) (P + q) _ (Nat.zero_add _) (List.nil_append _) hO1.out hL1.out hS1.out (enFlat_one _) (by omega) (by unfold maxLen; omega) (Nat.le_trans HK2.out.size (by simp)) ?_
                         intro A5 d5 w5 ho5 hg5 _
                         have HO5 := hid ho5
                         have HK5 := hid (HK2.out.trans (hKe.out.app hO0.out hg5 (fun g h1 h2 => absurd h2 (Nat.not_lt.2 h1))) (fun _ _ f => f))
                         clear ho5 hg5)
                      | (at_builtin
                         refine E26.law2 (.tmp 101) (.tmp 104) (.slice A5 (P + q) d5) (some ⟨b, off + q * 3, none⟩) (k - q) (z - q) rfl rfl rfl rfl w.heap.size (P + q) (enFlat (l.take (P + q))) (enFlat (es.drop q)) (P + q + (k - q)) _ rfl rfl HO5.out hL2.out ((HM.out.same HK5.out).srcDrop q) (enFlat_one _) (by omega) (by unfold maxLen; omega) HK5.out.size ?_
                         intro A6 d6 w6 ho6 hg6 _
                         have HO6 := hid ho6
                         have HK6 := hid (HK5.out.app HO5.out hg6 (fun g h1 h2 => by omega))
                         clear ho6 hg6))
                    go_ret3
                    refine hgood.out hb.out hh.out _ _ _ _ HK6.out ?_
                    rw [show ((P : Nat) : Int).toNat = P by omega, HS.out]
                    refine Ls.of_own (by have := HO6.out; simpa [enFlat] using this) hAv ?_ (by have := Hm.out; have := Hl.out; simp; omega)
                    intro x hx
                    rcases List.mem_append.1 hx with hx | hx
                    · exact (HL.out.el x (List.mem_of_mem_take hx)).same HK6.out
                    · exact (HM.out.el x (List.mem_of_mem_drop hx)).same HK6.out
                · have HS := hid (putC_stop (HA.out.stop (p := En.pe) HE.out (by rw [List.getElem?_eq_none (by have := Hl.out; omega)]; simp)) (by have := Hm.out; omega))
                  have hq3 : (n : Int) ≤ (P : Int) + (q : Int) := by omega
                  have hsum : IntKind.i64.wrap ((P : Int) + (q : Int)) = (P : Int) + (q : Int) := IntWalk.i64_in _ (by omega)
                  have HK2 := hid HK.out.drew
                  rcases Nat.eq_zero_or_pos n with hz | hz
                  · subst hz
                    obtain rfl : P = 0 := by omega
                    obtain rfl : q = 0 := by omega
                    go_wp2_with fail
                    go_region
                    have hcap1 := HL.out.cap
                    have hcap2 := HM.out.cap
                    have hO1 := hid (World.ownsRow_made (base := w.heap.size) (e := 46) (size := 3) wr.drew #[] 0 HK2.out.size (by simp [maxLen]) rfl)
                    have hS1 := hid (((HL.out.take 0 (Nat.zero_le _)).sl.same HK2.out).src ((Keep.refl _ wr.drew).alloc (.cells #[] 46)))
                    have hL1 := hid (show (enFlat (l.take 0)).length = 0 * 3 by rw [enFlat_len, List.length_take]; have := Hl.out; omega)
                    have hL2 := hid (show (enFlat (es)).length = k * 3 by rw [enFlat_len, Hm.out])
                    have hO0 := hid (World.ownsRow_made (base := (wr.drew).heap.size) (e := 46) (size := 3) wr.drew #[] 0 (Nat.le_refl _) (by simp [maxLen]) rfl)
                    have hKe := hid ((Keep.refl (fun _ => False) wr.drew).alloc (.cells #[] 46))
                    go_wp2_with (first
                      | (at_builtin
                         refine E26.law2 (.tmp 94) (.tmp 99) (.slice (some ⟨(wr.drew).heap.size, 0, none⟩) 0 0) X 0 c rfl rfl rfl rfl w.heap.size 0 [] (enFlat (l.take 0)) 0 _ (Nat.zero_add _) (List.nil_append _) hO1.out hL1.out hS1.out (enFlat_one _) (by omega) (by unfold maxLen; omega) (Nat.le_trans HK2.out.size (by simp)) ?_
                         intro A5 d5 w5 ho5 hg5 _
                         have HO5 := hid ho5
                         have HK5 := hid (HK2.out.trans (hKe.out.app hO0.out hg5 (fun g h1 h2 => absurd h2 (Nat.not_lt.2 h1))) (fun _ _ f => f))
                         clear ho5 hg5)
                      | (at_builtin
                         refine E26.law2 (.tmp 101) (.tmp 104) (.slice A5 0 d5) (some ⟨b, off, none⟩) k z rfl rfl rfl rfl w.heap.size 0 (enFlat (l.take 0)) (enFlat (es)) k _ (Nat.zero_add _) rfl HO5.out hL2.out ((HM.out.same HK5.out).src0) (enFlat_one _) (by omega) (by unfold maxLen; omega) HK5.out.size ?_
                         intro A6 d6 w6 ho6 hg6 _
                         have HO6 := hid ho6
                         have HK6 := hid (HK5.out.app HO5.out hg6 (fun g h1 h2 => by omega))
                         clear ho6 hg6))
                    go_ret3
                    refine hgood.out hb.out hh.out _ _ _ _ HK6.out ?_
                    rw [show ((0 : Nat) : Int).toNat = 0 by rfl, HS.out]
                    refine Ls.of_own (by have := HO6.out; simpa [enFlat] using this) hAv ?_ (by have := Hm.out; have := Hl.out; simp; omega)
                    intro x hx
                    rcases List.mem_append.1 hx with hx | hx
                    · exact (HL.out.el x (List.mem_of_mem_take hx)).same HK6.out
                    · exact (HM.out.el x (hx)).same HK6.out
                  · obtain ⟨b1, o1, rfl, _⟩ := HL.out.sl.at_ hz
                    go_wp2_with fail
                    go_region
                    have hcap1 := HL.out.cap
                    have hcap2 := HM.out.cap
                    have hO1 := hid (World.ownsRow_made (base := w.heap.size) (e := 46) (size := 3) wr.drew #[] 0 HK2.out.size (by simp [maxLen]) rfl)
                    have hS1 := hid (((HL.out.take (P + q) hPqn).sl.same HK2.out).src ((Keep.refl _ wr.drew).alloc (.cells #[] 46)))
                    have hL1 := hid (show (enFlat (l.take (P + q))).length = (P + q) * 3 by rw [enFlat_len, List.length_take]; have := Hl.out; omega)
                    have hL2 := hid (show (enFlat (es.drop q)).length = (k - q) * 3 by rw [enFlat_len, List.length_drop, Hm.out])
                    have hO0 := hid (World.ownsRow_made (base := (wr.drew).heap.size) (e := 46) (size := 3) wr.drew #[] 0 (Nat.le_refl _) (by simp [maxLen]) rfl)
                    have hKe := hid ((Keep.refl (fun _ => False) wr.drew).alloc (.cells #[] 46))
                    go_wp2_with (first
                      | (at_builtin
                         refine E26.law2 (.tmp 94) (.tmp 99) (.slice (some ⟨(wr.drew).heap.size, 0, none⟩) 0 0) (some ⟨b1, o1, none⟩) (P + q) c rfl rfl rfl rfl w.heap.size 0 [] (enFlat (l.take (P + q))) (P + q) _ (Nat.zero_add _) (List.nil_append _) hO1.out hL1.out hS1.out (enFlat_one _) (by omega) (by unfold maxLen; omega) (Nat.le_trans HK2.out.size (by simp)) ?_
                         intro A5 d5 w5 ho5 hg5 _
                         have HO5 := hid ho5
                         have HK5 := hid (HK2.out.trans (hKe.out.app hO0.out hg5 (fun g h1 h2 => absurd h2 (Nat.not_lt.2 h1))) (fun _ _ f => f))
                         clear ho5 hg5)
                      | (at_builtin
                         refine E26.law2 (.tmp 101) (.tmp 104) (.slice A5 (P + q) d5) (some ⟨b, off + q * 3, none⟩) (k - q) (z - q) rfl rfl rfl rfl w.heap.size (P + q) (enFlat (l.take (P + q))) (enFlat (es.drop q)) (P + q + (k - q)) _ rfl rfl HO5.out hL2.out ((HM.out.same HK5.out).srcDrop q) (enFlat_one _) (by omega) (by unfold maxLen; omega) HK5.out.size ?_
                         intro A6 d6 w6 ho6 hg6 _
                         have HO6 := hid ho6
                         have HK6 := hid (HK5.out.app HO5.out hg6 (fun g h1 h2 => by omega))
                         clear ho6 hg6))
                    go_ret3
                    refine hgood.out hb.out hh.out _ _ _ _ HK6.out ?_
                    rw [show ((P : Nat) : Int).toNat = P by omega, HS.out]
                    refine Ls.of_own (by have := HO6.out; simpa [enFlat] using this) hAv ?_ (by have := Hm.out; have := Hl.out; simp; omega)
                    intro x hx
                    rcases List.mem_append.1 hx with hx | hx
                    · exact (HL.out.el x (List.mem_of_mem_take hx)).same HK6.out
                    · exact (HM.out.el x (List.mem_of_mem_drop hx)).same HK6.out
              · obtain rfl : q = k := by omega
                have HS := hid (putC_all (l := l) (n := P) (es := es) (by have := HA.out; rw [← Hm.out] at this; exact this.all))
                go_wp2_with fail
                go_ret3
                refine hgood.out hb.out hh.out _ _ _ _ HK.out ?_
                rw [show ((P : Nat) : Int).toNat = P by omega, HS.out]
                exact HL.out.same HK.out
          · have hh := hid (show putHas En.pe l P term = false by simp [putHas, hT])
            generalize termT En.pe l P = T' at *
            have hTf : (T' == term) = false := by simpa using hT
            have hTf2 : (T' != term) = true := by simp [bne, hTf]
            clear hT
            go_wp2_with (first
              | (go_at_call 24; refine HR.out.mono ?_; rintro e' w2 ⟨rfl, hk2⟩
                 have HK2 := hid (HK.out.then hk2)
                 clear hk2))
            go_ret3
            exact hhas.out hb.out hh.out _ HK2.out
        · have hB' : termB l prev = false := by simpa using hB
          rw [hB'] at HR
          have hh := hid (show putHas En.pe l prev term = false by simp [putHas, hB'])
          generalize termT En.pe l prev = T' at *
          clear hB hB'
          go_wp2_with (first
            | (go_at_call 24; refine HR.out.mono ?_; rintro e' w2 ⟨rfl, hk2⟩
               have HK2 := hid (HK.out.then hk2)
               clear hk2))
          go_ret3
          exact hhas.out hb.out hh.out _ HK2.out
end Go.Proofs.Ytbellndcgagclaa

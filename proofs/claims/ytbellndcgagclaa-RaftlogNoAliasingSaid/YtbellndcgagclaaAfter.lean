import Derived.Test.YtbellndcgagclaaCut
namespace Go.Proofs.Ytbellndcgagclaa
open Go.RowKit

def PutLog (w : World) (Av : Nat → Prop) (lb : Nat) (r : Option Nat) (l es : List En) (prev term : Int) : Ending → World → Prop :=
  LogPost w Av lb r ((putL En.pe l prev term es).map En.pe) (.tuple #[.bool (putOk En.pe l prev term es), .int .i64 (putE En.pe prev term es)])
set_option maxHeartbeats 32000000 in
set_option maxRecDepth 100000 in
theorem appendAfter_any (w : World) (Av : Nat → Prop) (hAv : ∀ i, Av i → i < w.heap.size) (lb : Nat) (r : Option Nat) (A : Option Addr) (c : Nat) (l es : List En) (n m z : Nat) (Z : Option Addr) (hI : IsLog w Av lb r A c l) (hnl : l.length = n)
    (h2 : Ls w (fun i => i = lb ∨ some i = r) Z m z es) (hn : n ≤ 1000) (hm : m ≤ 1000) (prev term : Int) :
    Calls Try.prog 16 #[.pointer (some ⟨lb, 0, none⟩), .int .i64 prev, .int .i64 term, .slice Z m z] w (PutLog w Av lb r l es prev term) := by
  have Hl := hid hnl
  have Hm := hid h2.len
  have HL := hid hI
  have HM := hid h2
  have hcl := hid (fun W (hs : Same w W) => show W.cell? ⟨lb, 0, none⟩ = some (.slice A n c) by rw [← hnl]; exact (HL.out.same hs).c0)
  clear hI h2 hnl
  have hbad : Hid (putBad En.pe prev term es = true → ∀ W, Same w W → PutLog w Av lb r l es prev term (.returned (.tuple #[.bool false, .int .i64 1])) W) := hid (fun hb W hs => by
    unfold PutLog
    rw [show putL En.pe l prev term es = l by simp [putL, hb], show putOk En.pe l prev term es = false by simp [putOk, hb], show putE En.pe prev term es = 1 by simp [putE, hb]]
    exact ⟨r, A, c, l, rfl, HL.out.same hs, rfl, hs.wide (fun _ _ f => f.elim), fun g e => .inl e⟩)
  have hhas : Hid (putBad En.pe prev term es = false → putHas En.pe l prev term = false → ∀ W, Same w W → PutLog w Av lb r l es prev term (.returned (.tuple #[.bool false, .int .i64 0])) W) := hid (fun hb hh W hs => by
    unfold PutLog
    rw [show putL En.pe l prev term es = l by simp [putL, hb, hh], show putOk En.pe l prev term es = false by simp [putOk, hb, hh], show putE En.pe prev term es = 0 by simp [putE, hb]]
    exact ⟨r, A, c, l, rfl, HL.out.same hs, rfl, hs.wide (fun _ _ f => f.elim), fun g e => .inl e⟩)
  have hgood : Hid (putBad En.pe prev term es = false → putHas En.pe l prev term = true → ∀ W q, Growing w Av lb r q W → q = (putC En.pe l prev.toNat es).map En.pe → PutLog w Av lb r l es prev term (.returned (.tuple #[.bool true, .int .i64 0])) W) := hid (fun hb hh W q hG hq => by
    unfold PutLog
    rw [show putL En.pe l prev term es = putC En.pe l prev.toNat es by simp [putL, hb, hh], show putOk En.pe l prev term es = true by simp [putOk, hb, hh], show putE En.pe prev term es = 0 by simp [putE, hb]]
    exact (hq ▸ hG).post)
  by_cases h0 : prev < 0 ∨ term < 0
  · have hb := hid (show putBad En.pe prev term es = true by rcases h0 with h0 | h0 <;> simp [putBad, h0])
    by_cases h1 : prev < 0
    all_goals
      go_enter Try.func16, Try.ntmps16
      go_wp2_with fail
      go_ret2
      exact hbad.out hb.out _ (Keep.refl _ _)
  · have h0a : 0 ≤ prev := by omega
    have h0b : 0 ≤ term := by omega
    clear h0
    go_enter Try.func16, Try.ntmps16
    go_wp2_with fail
    go_loopw [10, 28] (fun t i wr => ∃ k : Nat, ∃ T : Int, k ≤ m ∧ i = .int .i64 k ∧ t = .int .i64 T ∧ Hid (T = floorT En.pe term es k) ∧ Hid (ChainUpto term es k) ∧ Hid (Same w wr)) (fun _ i _ => m - (RowKit.intOf i).toNat)
    case atStart => exact ⟨0, term, by omega, rfl, rfl, hid rfl, hid (ChainUpto.zero _ _), hid (Keep.refl _ _)⟩
    case round =>
      obtain ⟨k, T, hk, rfl, rfl, HF, HT, HK⟩ := hrel
      by_cases hkm : k < m
      · obtain ⟨e, he⟩ := get_some (l := es) (k := k) (by have := Hm.out; omega)
        have HE := hid he
        obtain ⟨b, off, rfl, c0, c1, c2⟩ := (HM.out.same HK.out).at_ he
        have HR := hid (valid_any wr _ e (((HM.out.same HK.out).el e (List.mem_of_getElem? he))))
        have hk1 : (k : Int) < (m : Int) := by omega
        unfold En.val at HR
        clear he
        by_cases hr : rightP e.pe = true
        · rw [hr] at HR
          by_cases ht : e.t < T
          · have hb := hid (show putBad En.pe prev term es = true by
              have := HT.out.no2 HE.out (by have := HF.out; omega)
              simp [putBad, this])
            go_wp2_with (first
              | (go_at_call 38; refine HR.out.mono ?_; rintro e' w2 ⟨rfl, hk2⟩
                 obtain ⟨b', off', e1, d0, d1, d2⟩ := (HM.out.same (HK.out.then hk2)).at_ HE.out
                 cases e1
                 have HK2 := hid (HK.out.then hk2)
                 clear hk2))
            go_ret2
            exact hbad.out hb.out _ HK2.out
          · have ht' : T ≤ e.t := by omega
            have HT' := hid (HT.out.succ HE.out hr (by have := HF.out; omega))
            have HF' := hid (floor_step En.pe HE.out (t := term))
            go_wp2_with (first
              | (go_at_call 38; refine HR.out.mono ?_; rintro e' w2 ⟨rfl, hk2⟩
                 obtain ⟨b', off', e1, d0, d1, d2⟩ := (HM.out.same (HK.out.then hk2)).at_ HE.out
                 cases e1
                 have HK2 := hid (HK.out.then hk2)
                 clear hk2))
            go_roundw
            case rel => exact ⟨k + 1, e.t, by omega, by go_num, rfl, hid (HF'.out.symm), HT', HK2⟩
            case measure => simp [RowKit.intOf]; omega
        · have hr' : rightP e.pe = false := by simpa using hr
          rw [hr'] at HR
          have hb := hid (show putBad En.pe prev term es = true by
            have := HT.out.no1 HE.out hr'
            simp [putBad, this])
          clear hr hr'
          go_wp2_with (first
            | (go_at_call 38; refine HR.out.mono ?_; rintro e' w2 ⟨rfl, hk2⟩
               have HK2 := hid (HK.out.then hk2)
               clear hk2))
          go_ret2
          exact hbad.out hb.out _ HK2.out
      · obtain rfl : k = m := by omega
        have HCh := hid (show chain En.pe term es = true by
          have h1 := HT.out
          rw [← Hm.out] at h1
          exact h1.all)
        have hb := hid (show putBad En.pe prev term es = false by
          have := HCh.out
          simp [putBad, this]
          omega)
        have HR := hid (term_any wr Av lb r A c l (HL.out.same HK.out) (by have := Hl.out; omega) prev)
        by_cases hB : termB l prev = true
        · rw [hB] at HR
          obtain ⟨P, rfl⟩ : ∃ P : Nat, prev = P := ⟨prev.toNat, by omega⟩
          have hPn : P ≤ n := by
            have := hB
            simp only [termB, Bool.and_eq_true, decide_eq_true_eq] at this
            have := Hl.out
            omega
          by_cases hT : termT En.pe l P = term
          · have hh := hid (show putHas En.pe l P term = true by simp [putHas, hB, hT])
            rw [hT] at HR
            clear hB hT hbad hhas HT HF
            go_wp2_with (first
              | (go_at_call 23; refine HR.out.mono ?_; rintro e' w2 ⟨rfl, hk2⟩
                 have HK2 := hid (HK.out.then hk2)
                 clear hk2))
            clear HK HR
            go_loopw [68] (fun i wr => ∃ q : Nat, q ≤ k ∧ P + q ≤ n ∧ i = .int .i64 q ∧ Hid (Agree En.pe l es P q) ∧ Hid (Same w wr)) (fun i _ => k - (RowKit.intOf i).toNat)
            case atStart => exact ⟨0, by omega, by omega, rfl, hid (Agree.zero _ _ _ _), HK2⟩
            case round =>
              obtain ⟨q, hq, hPqn, rfl, HA, HK⟩ := hrel
              have cl := hcl.out _ HK.out
              by_cases hqk : q < k
              · obtain ⟨e, he⟩ := get_some (l := es) (k := q) (by have := Hm.out; omega)
                have HE := hid he
                obtain ⟨b, off, rfl, c0, c1, c2⟩ := (HM.out.same HK.out).at_ he
                have hq1 : (q : Int) < (k : Int) := by omega
                have hsum : IntKind.i64.wrap ((P : Int) + (q : Int)) = (P : Int) + (q : Int) := IntWalk.i64_in _ (by omega)
                have hs0 : (0 : Int) ≤ (P : Int) + (q : Int) := by omega
                have hs1 : ((P : Int) + (q : Int)).toNat = P + q := by omega
                have hq0 : (0 : Int) ≤ (q : Int) := by omega
                have HRt := hid (chain_ok HCh.out)
                clear he
                by_cases hPq : P + q < n
                · obtain ⟨a, ha⟩ := get_some (l := l) (k := P + q) (by have := Hl.out; omega)
                  have HAa := hid ha
                  obtain ⟨g1, cur, rfl, _⟩ := HL.out.row.open_ (by have := Hl.out; omega)
                  obtain ⟨b1, o1, e1, d0, d1, d2⟩ := (HL.out.same HK.out).ls.at_ ha
                  cases e1
                  rw [Nat.zero_add] at d0 d1 d2
                  have HC := hid (equal_any wr.drew (fun i => i = lb ∨ some i = r) a e (((HL.out.el a (List.mem_of_getElem? ha)).same HK.out).same (Keep.refl _ wr).drew |>.wide (fun i _ hs => .inr hs)) (((HM.out.same HK.out).el e (List.mem_of_getElem? HE.out)).same (Keep.refl _ wr).drew))
                  have hq3 : (P : Int) + (q : Int) < (n : Int) := by omega
                  have hq4 : decide ((P : Int) + (q : Int) < (n : Int)) = true := by simp; omega
                  unfold En.val at HC
                  clear ha
                  by_cases hp : a.pe = e.pe
                  · have hpe : peq a.pe e.pe = true := by simp [peq, hp]
                    rw [hpe] at HC
                    have HA' := hid (HA.out.succ (p := En.pe) HE.out HAa.out hp)
                    clear hp hpe
                    go_wp2_with fail
                    go_region_held3 (fun W => W.cell? ⟨lb, 0, none⟩ = some (.slice (some ⟨g1, 0, none⟩) n c) ∧ W.cell? ⟨g1, (P + q) * 3, none⟩ = some (.int .i64 a.t) ∧ W.cell? ⟨g1, (P + q) * 3 + 1, none⟩ = some (.int .i64 a.k) ∧ W.cell? ⟨g1, (P + q) * 3 + 2, none⟩ = some (.slice a.A a.m a.c) ∧ W.cell? ⟨b, off + q * 3, none⟩ = some (.int .i64 e.t) ∧ W.cell? ⟨b, off + q * 3 + 1, none⟩ = some (.int .i64 e.k) ∧ W.cell? ⟨b, off + q * 3 + 2, none⟩ = some (.slice e.A e.m e.c))
                      (first | exact ⟨cl, d0, d1, d2, c0, c1, c2⟩ | exact hS2.out | go_keep)
                      (first
                        | (go_at_call 37; refine HC.out.mono ?_; rintro e' w2 ⟨rfl, hk2⟩
                           have HK2 := hid (HK.out.then (((Keep.refl (fun _ => False) wr).drew).trans hk2 (fun _ _ f => f)))
                           have cl2 := hcl.out _ HK2.out
                           have hS2 : Hid (w2.cell? ⟨lb, 0, none⟩ = some (.slice (some ⟨g1, 0, none⟩) n c) ∧ w2.cell? ⟨g1, (P + q) * 3, none⟩ = some (.int .i64 a.t) ∧ w2.cell? ⟨g1, (P + q) * 3 + 1, none⟩ = some (.int .i64 a.k) ∧ w2.cell? ⟨g1, (P + q) * 3 + 2, none⟩ = some (.slice a.A a.m a.c) ∧ w2.cell? ⟨b, off + q * 3, none⟩ = some (.int .i64 e.t) ∧ w2.cell? ⟨b, off + q * 3 + 1, none⟩ = some (.int .i64 e.k) ∧ w2.cell? ⟨b, off + q * 3 + 2, none⟩ = some (.slice e.A e.m e.c)) := by
                             obtain ⟨x1, y1, e1, g0, g1, g2⟩ := (HL.out.same HK2.out).ls.at_ HAa.out
                             obtain ⟨x2, y2, e2, k0, k1, k2⟩ := (HM.out.same HK2.out).at_ HE.out
                             cases e1; cases e2
                             rw [Nat.zero_add] at g0 g1 g2
                             exact hid ⟨cl2, g0, g1, g2, k0, k1, k2⟩
                           clear hk2))
                    go_wp2_with fail
                    go_roundw
                    case rel => exact ⟨q + 1, by omega, by omega, by go_num, HA', HK2⟩
                    case measure => simp [RowKit.intOf]; omega
                  · have hpe : peq a.pe e.pe = false := by simp [peq, hp]
                    rw [hpe] at HC
                    have HS := hid (putC_stop (HA.out.stop (p := En.pe) HE.out (by rw [HAa.out]; simpa using hp)) (by have := Hm.out; omega))
                    clear hp hpe
                    go_wp2_with fail
                    go_region_held3 (fun W => W.cell? ⟨lb, 0, none⟩ = some (.slice (some ⟨g1, 0, none⟩) n c) ∧ W.cell? ⟨g1, (P + q) * 3, none⟩ = some (.int .i64 a.t) ∧ W.cell? ⟨g1, (P + q) * 3 + 1, none⟩ = some (.int .i64 a.k) ∧ W.cell? ⟨g1, (P + q) * 3 + 2, none⟩ = some (.slice a.A a.m a.c) ∧ W.cell? ⟨b, off + q * 3, none⟩ = some (.int .i64 e.t) ∧ W.cell? ⟨b, off + q * 3 + 1, none⟩ = some (.int .i64 e.k) ∧ W.cell? ⟨b, off + q * 3 + 2, none⟩ = some (.slice e.A e.m e.c))
                      (first | exact ⟨cl, d0, d1, d2, c0, c1, c2⟩ | exact hS2.out | go_keep)
                      (first
                        | (go_at_call 37; refine HC.out.mono ?_; rintro e' w2 ⟨rfl, hk2⟩
                           have HK2 := hid (HK.out.then (((Keep.refl (fun _ => False) wr).drew).trans hk2 (fun _ _ f => f)))
                           have cl2 := hcl.out _ HK2.out
                           have hS2 : Hid (w2.cell? ⟨lb, 0, none⟩ = some (.slice (some ⟨g1, 0, none⟩) n c) ∧ w2.cell? ⟨g1, (P + q) * 3, none⟩ = some (.int .i64 a.t) ∧ w2.cell? ⟨g1, (P + q) * 3 + 1, none⟩ = some (.int .i64 a.k) ∧ w2.cell? ⟨g1, (P + q) * 3 + 2, none⟩ = some (.slice a.A a.m a.c) ∧ w2.cell? ⟨b, off + q * 3, none⟩ = some (.int .i64 e.t) ∧ w2.cell? ⟨b, off + q * 3 + 1, none⟩ = some (.int .i64 e.k) ∧ w2.cell? ⟨b, off + q * 3 + 2, none⟩ = some (.slice e.A e.m e.c)) := by
                             obtain ⟨x1, y1, e1, g0, g1, g2⟩ := (HL.out.same HK2.out).ls.at_ HAa.out
                             obtain ⟨x2, y2, e2, k0, k1, k2⟩ := (HM.out.same HK2.out).at_ HE.out
                             cases e1; cases e2
                             rw [Nat.zero_add] at g0 g1 g2
                             exact hid ⟨cl2, g0, g1, g2, k0, k1, k2⟩
                           clear hk2))
                    have HI2 := hid (HL.out.same HK2.out)
                    have hcap := HL.out.cap
                    have hcap2 : n ≤ c := by have := Hl.out; omega
                    have hcq : ¬ c = P + q := by omega
                    have hcq2 : ((P : Int) + (q : Int)) < (c : Int) := by omega
                    have hcap3 : k ≤ z := HM.out.cap
                    have hcA := hid (show (some ⟨g1, (P + q) * 3, none⟩ : Option Addr) = cutA (some ⟨g1, 0, none⟩) c (P + q) 3 by simp [cutA, hcq, add_blk])
                    have hown2 := hid (show Own w2 0 46 3 (.slice (some ⟨g1, 0, none⟩) n c) n (enFlat l) by have := HI2.out.row; rwa [Hl.out] at this)
                    have hz1 := hid (show ∀ u ∈ (Value.agg #[.int .i64 0, .int .i64 0, .slice none 0 0]).cells, u.oneCell' = true by intro u hu; simp [Value.cells] at hu; rcases hu with rfl | rfl | rfl <;> rfl)
                    clear hcap
                    go_wp2_with (first
                      | (with_reducible refine E26.clearLaw (o := ⟨none, .call ⟨.builtin .clear, #[.tmp 100], #[26]⟩, _, _, _, _⟩) (.tmp 100) (some ⟨g1, 0, none⟩) (some ⟨g1, (P + q) * 3, none⟩) n c (P + q) (n - (P + q)) (c - (P + q)) ?_ ?_ ?_ hcA.out ?_ ?_ 0 (enFlat l) hown2.out hPqn hz1.out ?_
                         · rfl
                         · rfl
                         · rfl
                         · rfl
                         · rfl
                         intro w3 ho3 hg3 hsz3
                         have hC := HI2.out.cut (P + q) (by have := Hl.out; omega) ho3 (by rw [HI2.out.at_] at hg3; exact hg3)
                         have cl3 := hC.2.2.1
                         rw [Hl.out] at cl3
                         have fl3 := hC.2.2.2
                         have HC3 := hid hC
                         clear hC ho3 hg3 hsz3))
                    go_loopw [114] (fun v wx => ∃ j : Nat, j ≤ k - q ∧ v = .int .i64 j ∧ Hid (Growing w Av lb r ((l.take (P + q) ++ (es.drop q).take j).map En.pe) wx)) (fun v _ => (k - q) - (RowKit.intOf v).toNat)
                    case atStart => exact ⟨0, by omega, rfl, hid ⟨r, _, _, _, HC3.out.1, by simp, (HK2.out.wide (fun _ _ f => f.elim)).trans HC3.out.2.1 (fun i _ hs => hs), fun g e => .inl e⟩⟩
                    case round =>
                      obtain ⟨j, hj, rfl, HG⟩ := hrel
                      by_cases hjk : j < k - q
                      · obtain ⟨r', A', c', l', hI', hmap, hK', hr'⟩ := HG.out
                        obtain ⟨x, hx⟩ := get_some (l := es) (k := q + j) (by have := Hm.out; omega)
                        have hlen' : l'.length = (P + q) + j := by
                          have := congrArg List.length hmap
                          have h1 := Hm.out
                          have h2 := Hl.out
                          simp at this
                          omega
                        have hlen2 := hid hlen'
                        have hl1000 : l'.length ≤ 2000 := by omega
                        have HMx := HM.out.keep hK' (fun i _ hs => hs)
                        obtain ⟨b', off', e1, x0, x1, x2⟩ := HMx.at_ hx
                        cases e1
                        have ho : off + (q + j) * 3 = off + q * 3 + j * 3 := by omega
                        rw [ho] at x0 x1 x2
                        have HX := hid (HMx.el x (List.mem_of_getElem? hx))
                        have hrx := hid (HRt.out x (List.mem_of_getElem? hx))
                        have hx8 := rightP_len HX.out hrx.out
                        have HIx := hid hI'
                        have Hmap := hid hmap
                        have HKx := hid hK'
                        have Hr := hid hr'
                        have Hx := hid hx
                        have hbx := (Blk.made wr 46 #[.int .i64 0, .int .i64 0, .slice none 0 0])
                        have f0 := hbx.free 0
                        have f1 := hbx.free 1
                        have f2 := hbx.free 2
                        have z0 : (wr.alloc (.cells #[.int .i64 0, .int .i64 0, .slice none 0 0] 46)).cell? ⟨wr.heap.size, 0, none⟩ = some (.int .i64 0) := hbx.at_ 0
                        have z1 : (wr.alloc (.cells #[.int .i64 0, .int .i64 0, .slice none 0 0] 46)).cell? ⟨wr.heap.size, 1, none⟩ = some (.int .i64 0) := hbx.at_ 1
                        have z2 : (wr.alloc (.cells #[.int .i64 0, .int .i64 0, .slice none 0 0] 46)).cell? ⟨wr.heap.size, 2, none⟩ = some (.slice none 0 0) := hbx.at_ 2
                        have hk1 : Same wr (wr.alloc (.cells #[.int .i64 x.t, .int .i64 x.k, .slice x.A x.m x.c] 46)) := (Keep.refl _ wr).alloc _
                        have hby := (Blk.made wr 46 #[.int .i64 x.t, .int .i64 x.k, .slice x.A x.m x.c])
                        have y0 : (wr.alloc (.cells #[.int .i64 x.t, .int .i64 x.k, .slice x.A x.m x.c] 46)).cell? ⟨wr.heap.size, 0, none⟩ = some (.int .i64 x.t) := hby.at_ 0
                        have y1 : (wr.alloc (.cells #[.int .i64 x.t, .int .i64 x.k, .slice x.A x.m x.c] 46)).cell? ⟨wr.heap.size, 1, none⟩ = some (.int .i64 x.k) := hby.at_ 1
                        have y2 : (wr.alloc (.cells #[.int .i64 x.t, .int .i64 x.k, .slice x.A x.m x.c] 46)).cell? ⟨wr.heap.size, 2, none⟩ = some (.slice x.A x.m x.c) := hby.at_ 2
                        have yl : (wr.alloc (.cells #[.int .i64 x.t, .int .i64 x.k, .slice x.A x.m x.c] 46)).cell? ⟨lb, 0, none⟩ = some (.slice A' l'.length c') := (HIx.out.same hk1).c0
                        have HKy := hid hk1
                        have HCl := hid (clone_any (wr.alloc (.cells #[.int .i64 x.t, .int .i64 x.k, .slice x.A x.m x.c] 46)).drew _ x (HX.out.same hk1.drew) hx8)
                        have hjk2 : (j : Int) < ((k - q : Nat) : Int) := by omega
                        have hAvx := hid (show ∀ i, Av i → i < wr.heap.size from fun i hi => Nat.lt_of_lt_of_le (hAv i hi) hK'.size)
                        unfold En.val at HCl
                        clear hI' hmap hK' hr' hx hbx hby hk1 HMx hlen' ho
                        go_wp2_with fail
                        go_region_law (first
                          | (go_simp
                             go_at_call 39; refine HCl.out.mono ?_; rintro e' w5 ⟨B, d, rfl, he5, hk5⟩
                             unfold En.val
                             have HE5 := hid (he5.wide (fun i _ (hs : i < wr.heap.size) => Nat.lt_of_lt_of_le hs HKy.out.size))
                             have HK5 := hid (HKy.out.drew.then hk5)
                             have HI5 := hid (HIx.out.same HK5.out)
                             have cl5 : w5.cell? ⟨lb, 0, none⟩ = some (.slice A' l'.length c') := HI5.out.c0
                             have hl5 : lb < w5.heap.size := HI5.out.top.lt
                             have hSa := hid (fun (_ : 0 < 1) => (⟨_, rfl, src_new (w := w5) (t := 46) (cs := #[.int .i64 x.t, .int .i64 x.k, .slice B x.m d]) (news := (En.mk x.t x.k B x.m d x.body).cells) rfl⟩ : ∃ ad, some (⟨w5.heap.size, 0, none⟩ : Addr) = some ad ∧ ∀ j u, (En.mk x.t x.k B x.m d x.body).cells[j]? = some u → (w5.alloc (.cells #[.int .i64 x.t, .int .i64 x.k, .slice B x.m d] 46)).cell? (ad.add j) = some u))
                             have hOa := hid (World.ownsRow.alloc HI5.out.row (.cells #[.int .i64 x.t, .int .i64 x.k, .slice B x.m d] 46))
                             clear he5 hk5)
                          | (refine E26.step2 rfl (.tmp 122) (.tmp 125) rfl (.slice A' l'.length c') (some ⟨w5.heap.size, 0, none⟩) 1 1 rfl rfl 0 l'.length (enFlat l') (En.mk x.t x.k B x.m d x.body).cells (l'.length + 1) _ rfl rfl hOa.out rfl hSa.out (by intro u hu; exact enFlat_one [En.mk x.t x.k B x.m d x.body] u (by simpa [enFlat] using hu)) (by omega) (by unfold maxLen; omega) (Nat.zero_le _) ?_
                             intro A7 c7 w7 ho7 hg7 hw7
                             have hP := HIx.out.push hAvx.out HK5.out HE5.out hrx.out ho7 hg7 hw7
                             have c7a := hP.2.2.2.1
                             have f7a := hP.2.2.2.2
                             have HP := hid hP
                             clear ho7 hg7 hw7 hP))
                        all_goals
                          go_wp2_with fail
                          go_roundw
                          case rel =>
                            refine ⟨j + 1, by omega, by go_num, hid ⟨_, A7, c7, l' ++ [⟨x.t, x.k, B, x.m, d, x.body⟩], HP.out.1, ?_, HKx.out.trans HP.out.2.1 ?_, ?_⟩⟩
                            · have hd : (es.drop q)[j]? = some x := by rw [List.getElem?_drop]; exact Hx.out
                              rw [take_snoc hd, List.map_append, Hmap.out]
                              simp [En.pe]
                            · intro i hi hs
                              rcases hs with hs | hs
                              · exact .inl hs
                              · rcases Hr.out i hs.symm with h1 | h1
                                · exact .inr h1.symm
                                · omega
                            · intro g e
                              rcases HP.out.2.2.1 g e with h1 | h1
                              · exact Hr.out g h1
                              · right
                                have := HKx.out.size
                                omega
                          case measure => simp [RowKit.intOf]; omega
                      · obtain rfl : j = k - q := by omega
                        go_wp2_with fail
                        go_ret2
                        refine hgood.out hb.out hh.out _ _ HG.out ?_
                        have hfin : (es.drop q).take (k - q) = es.drop q := List.take_of_length_le (by rw [List.length_drop, Hm.out]; omega)
                        rw [show ((P : Nat) : Int).toNat = P by omega, HS.out, hfin]
                · have HS := hid (putC_stop (HA.out.stop (p := En.pe) HE.out (by rw [List.getElem?_eq_none (by have := Hl.out; omega)]; simp)) (by have := Hm.out; omega))
                  have HK2 := hid HK.out.drew
                  have HI2 := hid (HL.out.same HK2.out)
                  have hcap3 : k ≤ z := HM.out.cap
                  have hC := HI2.out.cut n (by have := Hl.out; omega) (by have := HI2.out.row.take n (by have := Hl.out; omega); simpa using this) (World.grownBy.refl _ _)
                  have cl3 := hC.2.2.1
                  rw [Hl.out] at cl3
                  have fl3 := hC.2.2.2
                  have HC3 := hid hC
                  have cl2 := hcl.out _ HK2.out
                  clear hC
                  rcases HL.out.row.2 with ⟨hv, hz0⟩ | ⟨g1, cap, cur, hv, _⟩
                  · injection hv with e1 e2 e3
                    subst e1 e3
                    obtain rfl : n = 0 := by have := Hl.out; omega
                    obtain rfl : P = 0 := by omega
                    obtain rfl : q = 0 := by omega
                    clear e2 hz0
                    go_wp2_with fail
                    go_region
                    go_wp2_with (first
                        | (with_reducible refine E26.clearNone (o := ⟨none, .call ⟨.builtin .clear, #[.tmp 100], #[26]⟩, _, _, _, _⟩) (.tmp 100) none 0 ?_ ?_ ?_ ?_
                           · rfl
                           · rfl
                           · rfl))
                    go_loopw [114] (fun v wx => ∃ j : Nat, j ≤ k ∧ v = .int .i64 j ∧ Hid (Growing w Av lb r ((l.take (0) ++ (es.drop 0).take j).map En.pe) wx)) (fun v _ => (k) - (RowKit.intOf v).toNat)
                    case atStart => exact ⟨0, by omega, rfl, hid ⟨r, _, _, _, HC3.out.1, by simp, (HK2.out.wide (fun _ _ f => f.elim)).trans HC3.out.2.1 (fun i _ hs => hs), fun g e => .inl e⟩⟩
                    case round =>
                      obtain ⟨j, hj, rfl, HG⟩ := hrel
                      by_cases hjk : j < k
                      · obtain ⟨r', A', c', l', hI', hmap, hK', hr'⟩ := HG.out
                        obtain ⟨x, hx⟩ := get_some (l := es) (k := j) (by have := Hm.out; omega)
                        have hlen' : l'.length = (0) + j := by
                          have := congrArg List.length hmap
                          have h1 := Hm.out
                          have h2 := Hl.out
                          simp at this
                          omega
                        have hlen2 := hid hlen'
                        have hl1000 : l'.length ≤ 2000 := by omega
                        have HMx := HM.out.keep hK' (fun i _ hs => hs)
                        obtain ⟨b', off', e1, x0, x1, x2⟩ := HMx.at_ hx
                        cases e1
                        have ho : off + (j) * 3 = off + j * 3 := by omega
                        rw [ho] at x0 x1 x2
                        have HX := hid (HMx.el x (List.mem_of_getElem? hx))
                        have hrx := hid (HRt.out x (List.mem_of_getElem? hx))
                        have hx8 := rightP_len HX.out hrx.out
                        have HIx := hid hI'
                        have Hmap := hid hmap
                        have HKx := hid hK'
                        have Hr := hid hr'
                        have Hx := hid hx
                        have hbx := (Blk.made wr 46 #[.int .i64 0, .int .i64 0, .slice none 0 0])
                        have f0 := hbx.free 0
                        have f1 := hbx.free 1
                        have f2 := hbx.free 2
                        have z0 : (wr.alloc (.cells #[.int .i64 0, .int .i64 0, .slice none 0 0] 46)).cell? ⟨wr.heap.size, 0, none⟩ = some (.int .i64 0) := hbx.at_ 0
                        have z1 : (wr.alloc (.cells #[.int .i64 0, .int .i64 0, .slice none 0 0] 46)).cell? ⟨wr.heap.size, 1, none⟩ = some (.int .i64 0) := hbx.at_ 1
                        have z2 : (wr.alloc (.cells #[.int .i64 0, .int .i64 0, .slice none 0 0] 46)).cell? ⟨wr.heap.size, 2, none⟩ = some (.slice none 0 0) := hbx.at_ 2
                        have hk1 : Same wr (wr.alloc (.cells #[.int .i64 x.t, .int .i64 x.k, .slice x.A x.m x.c] 46)) := (Keep.refl _ wr).alloc _
                        have hby := (Blk.made wr 46 #[.int .i64 x.t, .int .i64 x.k, .slice x.A x.m x.c])
                        have y0 : (wr.alloc (.cells #[.int .i64 x.t, .int .i64 x.k, .slice x.A x.m x.c] 46)).cell? ⟨wr.heap.size, 0, none⟩ = some (.int .i64 x.t) := hby.at_ 0
                        have y1 : (wr.alloc (.cells #[.int .i64 x.t, .int .i64 x.k, .slice x.A x.m x.c] 46)).cell? ⟨wr.heap.size, 1, none⟩ = some (.int .i64 x.k) := hby.at_ 1
                        have y2 : (wr.alloc (.cells #[.int .i64 x.t, .int .i64 x.k, .slice x.A x.m x.c] 46)).cell? ⟨wr.heap.size, 2, none⟩ = some (.slice x.A x.m x.c) := hby.at_ 2
                        have yl : (wr.alloc (.cells #[.int .i64 x.t, .int .i64 x.k, .slice x.A x.m x.c] 46)).cell? ⟨lb, 0, none⟩ = some (.slice A' l'.length c') := (HIx.out.same hk1).c0
                        have HKy := hid hk1
                        have HCl := hid (clone_any (wr.alloc (.cells #[.int .i64 x.t, .int .i64 x.k, .slice x.A x.m x.c] 46)).drew _ x (HX.out.same hk1.drew) hx8)
                        have hjk2 : (j : Int) < ((k : Nat) : Int) := by omega
                        have hAvx := hid (show ∀ i, Av i → i < wr.heap.size from fun i hi => Nat.lt_of_lt_of_le (hAv i hi) hK'.size)
                        unfold En.val at HCl
                        clear hI' hmap hK' hr' hx hbx hby hk1 HMx hlen' ho
                        go_wp2_with fail
                        go_region_law (first
                          | (go_simp
                             go_at_call 39; refine HCl.out.mono ?_; rintro e' w5 ⟨B, d, rfl, he5, hk5⟩
                             unfold En.val
                             have HE5 := hid (he5.wide (fun i _ (hs : i < wr.heap.size) => Nat.lt_of_lt_of_le hs HKy.out.size))
                             have HK5 := hid (HKy.out.drew.then hk5)
                             have HI5 := hid (HIx.out.same HK5.out)
                             have cl5 : w5.cell? ⟨lb, 0, none⟩ = some (.slice A' l'.length c') := HI5.out.c0
                             have hl5 : lb < w5.heap.size := HI5.out.top.lt
                             have hSa := hid (fun (_ : 0 < 1) => (⟨_, rfl, src_new (w := w5) (t := 46) (cs := #[.int .i64 x.t, .int .i64 x.k, .slice B x.m d]) (news := (En.mk x.t x.k B x.m d x.body).cells) rfl⟩ : ∃ ad, some (⟨w5.heap.size, 0, none⟩ : Addr) = some ad ∧ ∀ j u, (En.mk x.t x.k B x.m d x.body).cells[j]? = some u → (w5.alloc (.cells #[.int .i64 x.t, .int .i64 x.k, .slice B x.m d] 46)).cell? (ad.add j) = some u))
                             have hOa := hid (World.ownsRow.alloc HI5.out.row (.cells #[.int .i64 x.t, .int .i64 x.k, .slice B x.m d] 46))
                             clear he5 hk5)
                          | (refine E26.step2 rfl (.tmp 122) (.tmp 125) rfl (.slice A' l'.length c') (some ⟨w5.heap.size, 0, none⟩) 1 1 rfl rfl 0 l'.length (enFlat l') (En.mk x.t x.k B x.m d x.body).cells (l'.length + 1) _ rfl rfl hOa.out rfl hSa.out (by intro u hu; exact enFlat_one [En.mk x.t x.k B x.m d x.body] u (by simpa [enFlat] using hu)) (by omega) (by unfold maxLen; omega) (Nat.zero_le _) ?_
                             intro A7 c7 w7 ho7 hg7 hw7
                             have hP := HIx.out.push hAvx.out HK5.out HE5.out hrx.out ho7 hg7 hw7
                             have c7a := hP.2.2.2.1
                             have f7a := hP.2.2.2.2
                             have HP := hid hP
                             clear ho7 hg7 hw7 hP))
                        all_goals
                          go_wp2_with fail
                          go_roundw
                          case rel =>
                            refine ⟨j + 1, by omega, by go_num, hid ⟨_, A7, c7, l' ++ [⟨x.t, x.k, B, x.m, d, x.body⟩], HP.out.1, ?_, HKx.out.trans HP.out.2.1 ?_, ?_⟩⟩
                            · have hd : (es.drop 0)[j]? = some x := by rw [List.getElem?_drop, Nat.zero_add]; exact Hx.out
                              rw [take_snoc hd, List.map_append, Hmap.out]
                              simp [En.pe]
                            · intro i hi hs
                              rcases hs with hs | hs
                              · exact .inl hs
                              · rcases Hr.out i hs.symm with h1 | h1
                                · exact .inr h1.symm
                                · omega
                            · intro g e
                              rcases HP.out.2.2.1 g e with h1 | h1
                              · exact Hr.out g h1
                              · right
                                have := HKx.out.size
                                omega
                          case measure => simp [RowKit.intOf]; omega
                      · obtain rfl : j = k := by omega
                        go_wp2_with fail
                        go_ret2
                        refine hgood.out hb.out hh.out _ _ HG.out ?_
                        have hfin : (es.drop 0).take j = es.drop 0 := List.take_of_length_le (by rw [List.length_drop, Hm.out]; omega)
                        rw [show ((0 : Nat) : Int).toNat = 0 by rfl, HS.out, hfin]

                  · injection hv with e1 e2 e3
                    subst e1 e3
                    clear e2
                    obtain rfl : n = P + q := by omega
                    have hcap := HL.out.cap
                    have hcap2 : P + q ≤ c := by have := Hl.out; omega
                    clear hcap
                    by_cases hc0 : c = P + q
                    all_goals try subst hc0
                    all_goals
                      go_wp2_with fail
                      go_region
                      go_wp2_with (first
                        | (with_reducible refine E26.clearNone (o := ⟨none, .call ⟨.builtin .clear, #[.tmp 100], #[26]⟩, _, _, _, _⟩) (.tmp 100) (some ⟨g1, 0, none⟩) 0 ?_ ?_ ?_ ?_
                           · rfl
                           · rfl
                           · rfl)
                        | (with_reducible refine E26.clearNone (o := ⟨none, .call ⟨.builtin .clear, #[.tmp 100], #[26]⟩, _, _, _, _⟩) (.tmp 100) (some ⟨g1, (P + q) * 3, none⟩) (c - (P + q)) ?_ ?_ ?_ ?_
                           · rfl
                           · rfl
                           · rfl))
                      go_loopw [114] (fun v wx => ∃ j : Nat, j ≤ k - q ∧ v = .int .i64 j ∧ Hid (Growing w Av lb r ((l.take (P + q) ++ (es.drop q).take j).map En.pe) wx)) (fun v _ => (k - q) - (RowKit.intOf v).toNat)
                      case atStart => exact ⟨0, by omega, rfl, hid ⟨r, _, _, _, HC3.out.1, by simp, (HK2.out.wide (fun _ _ f => f.elim)).trans HC3.out.2.1 (fun i _ hs => hs), fun g e => .inl e⟩⟩
                      case round =>
                        obtain ⟨j, hj, rfl, HG⟩ := hrel
                        by_cases hjk : j < k - q
                        · obtain ⟨r', A', c', l', hI', hmap, hK', hr'⟩ := HG.out
                          obtain ⟨x, hx⟩ := get_some (l := es) (k := q + j) (by have := Hm.out; omega)
                          have hlen' : l'.length = (P + q) + j := by
                            have := congrArg List.length hmap
                            have h1 := Hm.out
                            have h2 := Hl.out
                            simp at this
                            omega
                          have hlen2 := hid hlen'
                          have hl1000 : l'.length ≤ 2000 := by omega
                          have HMx := HM.out.keep hK' (fun i _ hs => hs)
                          obtain ⟨b', off', e1, x0, x1, x2⟩ := HMx.at_ hx
                          cases e1
                          have ho : off + (q + j) * 3 = off + q * 3 + j * 3 := by omega
                          rw [ho] at x0 x1 x2
                          have HX := hid (HMx.el x (List.mem_of_getElem? hx))
                          have hrx := hid (HRt.out x (List.mem_of_getElem? hx))
                          have hx8 := rightP_len HX.out hrx.out
                          have HIx := hid hI'
                          have Hmap := hid hmap
                          have HKx := hid hK'
                          have Hr := hid hr'
                          have Hx := hid hx
                          have hbx := (Blk.made wr 46 #[.int .i64 0, .int .i64 0, .slice none 0 0])
                          have f0 := hbx.free 0
                          have f1 := hbx.free 1
                          have f2 := hbx.free 2
                          have z0 : (wr.alloc (.cells #[.int .i64 0, .int .i64 0, .slice none 0 0] 46)).cell? ⟨wr.heap.size, 0, none⟩ = some (.int .i64 0) := hbx.at_ 0
                          have z1 : (wr.alloc (.cells #[.int .i64 0, .int .i64 0, .slice none 0 0] 46)).cell? ⟨wr.heap.size, 1, none⟩ = some (.int .i64 0) := hbx.at_ 1
                          have z2 : (wr.alloc (.cells #[.int .i64 0, .int .i64 0, .slice none 0 0] 46)).cell? ⟨wr.heap.size, 2, none⟩ = some (.slice none 0 0) := hbx.at_ 2
                          have hk1 : Same wr (wr.alloc (.cells #[.int .i64 x.t, .int .i64 x.k, .slice x.A x.m x.c] 46)) := (Keep.refl _ wr).alloc _
                          have hby := (Blk.made wr 46 #[.int .i64 x.t, .int .i64 x.k, .slice x.A x.m x.c])
                          have y0 : (wr.alloc (.cells #[.int .i64 x.t, .int .i64 x.k, .slice x.A x.m x.c] 46)).cell? ⟨wr.heap.size, 0, none⟩ = some (.int .i64 x.t) := hby.at_ 0
                          have y1 : (wr.alloc (.cells #[.int .i64 x.t, .int .i64 x.k, .slice x.A x.m x.c] 46)).cell? ⟨wr.heap.size, 1, none⟩ = some (.int .i64 x.k) := hby.at_ 1
                          have y2 : (wr.alloc (.cells #[.int .i64 x.t, .int .i64 x.k, .slice x.A x.m x.c] 46)).cell? ⟨wr.heap.size, 2, none⟩ = some (.slice x.A x.m x.c) := hby.at_ 2
                          have yl : (wr.alloc (.cells #[.int .i64 x.t, .int .i64 x.k, .slice x.A x.m x.c] 46)).cell? ⟨lb, 0, none⟩ = some (.slice A' l'.length c') := (HIx.out.same hk1).c0
                          have HKy := hid hk1
                          have HCl := hid (clone_any (wr.alloc (.cells #[.int .i64 x.t, .int .i64 x.k, .slice x.A x.m x.c] 46)).drew _ x (HX.out.same hk1.drew) hx8)
                          have hjk2 : (j : Int) < ((k - q : Nat) : Int) := by omega
                          have hAvx := hid (show ∀ i, Av i → i < wr.heap.size from fun i hi => Nat.lt_of_lt_of_le (hAv i hi) hK'.size)
                          unfold En.val at HCl
                          clear hI' hmap hK' hr' hx hbx hby hk1 HMx hlen' ho
                          go_wp2_with fail
                          go_region_law (first
                            | (go_simp
                               go_at_call 39; refine HCl.out.mono ?_; rintro e' w5 ⟨B, d, rfl, he5, hk5⟩
                               unfold En.val
                               have HE5 := hid (he5.wide (fun i _ (hs : i < wr.heap.size) => Nat.lt_of_lt_of_le hs HKy.out.size))
                               have HK5 := hid (HKy.out.drew.then hk5)
                               have HI5 := hid (HIx.out.same HK5.out)
                               have cl5 : w5.cell? ⟨lb, 0, none⟩ = some (.slice A' l'.length c') := HI5.out.c0
                               have hl5 : lb < w5.heap.size := HI5.out.top.lt
                               have hSa := hid (fun (_ : 0 < 1) => (⟨_, rfl, src_new (w := w5) (t := 46) (cs := #[.int .i64 x.t, .int .i64 x.k, .slice B x.m d]) (news := (En.mk x.t x.k B x.m d x.body).cells) rfl⟩ : ∃ ad, some (⟨w5.heap.size, 0, none⟩ : Addr) = some ad ∧ ∀ j u, (En.mk x.t x.k B x.m d x.body).cells[j]? = some u → (w5.alloc (.cells #[.int .i64 x.t, .int .i64 x.k, .slice B x.m d] 46)).cell? (ad.add j) = some u))
                               have hOa := hid (World.ownsRow.alloc HI5.out.row (.cells #[.int .i64 x.t, .int .i64 x.k, .slice B x.m d] 46))
                               clear he5 hk5)
                            | (refine E26.step2 rfl (.tmp 122) (.tmp 125) rfl (.slice A' l'.length c') (some ⟨w5.heap.size, 0, none⟩) 1 1 rfl rfl 0 l'.length (enFlat l') (En.mk x.t x.k B x.m d x.body).cells (l'.length + 1) _ rfl rfl hOa.out rfl hSa.out (by intro u hu; exact enFlat_one [En.mk x.t x.k B x.m d x.body] u (by simpa [enFlat] using hu)) (by omega) (by unfold maxLen; omega) (Nat.zero_le _) ?_
                               intro A7 c7 w7 ho7 hg7 hw7
                               have hP := HIx.out.push hAvx.out HK5.out HE5.out hrx.out ho7 hg7 hw7
                               have c7a := hP.2.2.2.1
                               have f7a := hP.2.2.2.2
                               have HP := hid hP
                               clear ho7 hg7 hw7 hP))
                          all_goals
                            go_wp2_with fail
                            go_roundw
                            case rel =>
                              refine ⟨j + 1, by omega, by go_num, hid ⟨_, A7, c7, l' ++ [⟨x.t, x.k, B, x.m, d, x.body⟩], HP.out.1, ?_, HKx.out.trans HP.out.2.1 ?_, ?_⟩⟩
                              · have hd : (es.drop q)[j]? = some x := by rw [List.getElem?_drop]; exact Hx.out
                                rw [take_snoc hd, List.map_append, Hmap.out]
                                simp [En.pe]
                              · intro i hi hs
                                rcases hs with hs | hs
                                · exact .inl hs
                                · rcases Hr.out i hs.symm with h1 | h1
                                  · exact .inr h1.symm
                                  · omega
                              · intro g e
                                rcases HP.out.2.2.1 g e with h1 | h1
                                · exact Hr.out g h1
                                · right
                                  have := HKx.out.size
                                  omega
                            case measure => simp [RowKit.intOf]; omega
                        · obtain rfl : j = k - q := by omega
                          go_wp2_with fail
                          go_ret2
                          refine hgood.out hb.out hh.out _ _ HG.out ?_
                          have hfin : (es.drop q).take (k - q) = es.drop q := List.take_of_length_le (by rw [List.length_drop, Hm.out]; omega)
                          rw [show ((P : Nat) : Int).toNat = P by omega, HS.out, hfin]

              · obtain rfl : q = k := by omega
                have HS := hid (putC_all (l := l) (n := P) (es := es) (by have := HA.out; rw [← Hm.out] at this; exact this.all))
                go_wp2_with fail
                go_ret2
                refine hgood.out hb.out hh.out _ _ ⟨r, A, c, l, HL.out.same HK.out, rfl, HK.out.wide (fun _ _ f => f.elim), fun g e => .inl e⟩ ?_
                rw [show ((P : Nat) : Int).toNat = P by omega, HS.out]
          · have hh := hid (show putHas En.pe l P term = false by simp [putHas, hT])
            generalize termT En.pe l P = T' at *
            have hTf : (T' == term) = false := by simpa using hT
            have hTf2 : (T' != term) = true := by simp [bne, hTf]
            clear hT
            go_wp2_with (first
              | (go_at_call 23; refine HR.out.mono ?_; rintro e' w2 ⟨rfl, hk2⟩
                 have HK2 := hid (HK.out.then hk2)
                 clear hk2))
            go_ret2
            exact hhas.out hb.out hh.out _ HK2.out
        · have hB' : termB l prev = false := by simpa using hB
          rw [hB'] at HR
          have hh := hid (show putHas En.pe l prev term = false by simp [putHas, hB'])
          generalize termT En.pe l prev = T' at *
          clear hB hB'
          go_wp2_with (first
            | (go_at_call 23; refine HR.out.mono ?_; rintro e' w2 ⟨rfl, hk2⟩
               have HK2 := hid (HK.out.then hk2)
               clear hk2))
          go_ret2
          exact hhas.out hb.out hh.out _ HK2.out
end Go.Proofs.Ytbellndcgagclaa

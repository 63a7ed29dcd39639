import Derived.Test.YtbellndcgagclaaLog
namespace Go.Proofs.Ytbellndcgagclaa
open Go.RowKit

def sameE (l m : List En) : Bool := decide (l.map En.pe = m.map En.pe)
theorem map_take_snoc {l m : List En} {k : Nat} {a b : En} (ha : l[k]? = some a) (hb : m[k]? = some b) (h : (l.take k).map En.pe = (m.take k).map En.pe) (hp : a.pe = b.pe) : (l.take (k + 1)).map En.pe = (m.take (k + 1)).map En.pe := by
  rw [take_snoc ha, take_snoc hb]; simp [h, hp]
theorem sameE_no {l m : List En} {k : Nat} {a b : En} (ha : l[k]? = some a) (hb : m[k]? = some b) (hp : ¬ a.pe = b.pe) : sameE l m = false := by
  unfold sameE
  rw [decide_eq_false_iff_not]
  intro h
  have h1 : (l.map En.pe)[k]? = (m.map En.pe)[k]? := by rw [h]
  simp [ha, hb] at h1
  exact hp h1
theorem sameE_len {l m : List En} (h : ¬ l.length = m.length) : sameE l m = false := by
  unfold sameE
  rw [decide_eq_false_iff_not]
  intro e
  have := congrArg List.length e
  simp at this
  exact h this
set_option maxHeartbeats 4000000 in
set_option maxRecDepth 100000 in
theorem same_any (w : World) (Av Bv : Nat → Prop) (X Y : Option Addr) (n c m d : Nat) (l l2 : List En) (h : Ls w Av X n c l) (h2 : Ls w Bv Y m d l2) (hn : n ≤ 1000) (hm : m ≤ 1000) :
    Calls Try.prog 21 #[.slice X n c, .slice Y m d] w (PlainPost w (sameE l l2)) := by
  have hl := h.len
  have hl2 := h2.len
  have HL := hid h
  have HM := hid h2
  clear h h2
  by_cases hnm : n = m
  · subst hnm
    have Hl := hid hl
    have Hl2 := hid hl2
    clear hl hl2
    go_enter Try.func21, Try.ntmps21
    go_wp2_with fail
    go_loopw [5] (fun i wr => ∃ k : Nat, k ≤ n ∧ i = .int .i64 k ∧ Same w wr ∧ Hid ((l.take k).map En.pe = (l2.take k).map En.pe)) (fun i _ => n - (intOf i).toNat)
    case atStart => exact ⟨0, by omega, rfl, Keep.refl _ _, hid (by simp)⟩
    case round =>
      obtain ⟨k, hk, rfl, hK, HT⟩ := hrel
      have HK := hid hK
      clear hK
      by_cases hkn : k < n
      · obtain ⟨a, ha⟩ := get_some (l := l) (k := k) (by have := Hl.out; omega)
        obtain ⟨b, hb⟩ := get_some (l := l2) (k := k) (by have := Hl2.out; omega)
        obtain ⟨b1, o1, rfl, c0, c1, c2⟩ := (HL.out.same HK.out).at_ ha
        obtain ⟨b2, o2, rfl, d0, d1, d2⟩ := (HM.out.same HK.out).at_ hb
        have HA := hid ha
        have HB := hid hb
        have HC := hid (fun W (hs : Same wr W) => alike_any W (fun i => Av i ∧ Bv i) a b (((HL.out.same HK.out).el a (List.mem_of_getElem? HA.out)).same hs |>.wide (fun _ _ h => h.1)) (((HM.out.same HK.out).el b (List.mem_of_getElem? HB.out)).same hs |>.wide (fun _ _ h => h.2)))
        clear ha hb
        have hk0 : (0 : Int) ≤ (k : Int) := by omega
        have hk1 : (k : Int) < (n : Int) := by omega
        unfold En.val at HC
        by_cases hp : a.pe = b.pe
        · have hpe : peq a.pe b.pe = true := by simp [peq, hp]
          rw [hpe] at HC
          have HT' := hid (map_take_snoc HA.out HB.out HT.out hp)
          clear hp hpe
          go_wp2_with fail
          go_region_held3 (fun w' => w'.cell? ⟨b1, o1 + k * 3, none⟩ = some (.int .i64 a.t) ∧ w'.cell? ⟨b1, o1 + k * 3 + 1, none⟩ = some (.int .i64 a.k) ∧ w'.cell? ⟨b1, o1 + k * 3 + 2, none⟩ = some (.slice a.A a.m a.c) ∧
              w'.cell? ⟨b2, o2 + k * 3, none⟩ = some (.int .i64 b.t) ∧ w'.cell? ⟨b2, o2 + k * 3 + 1, none⟩ = some (.int .i64 b.k) ∧ w'.cell? ⟨b2, o2 + k * 3 + 2, none⟩ = some (.slice b.A b.m b.c))
            (first | exact ⟨c0, c1, c2, d0, d1, d2⟩ | exact hS2.out | go_keep)
            (first
              | (go_at_call 25; refine (HC.out _ (Keep.refl _ _).drew).mono ?_; rintro e w2 ⟨rfl, hk2⟩
                 have HK2 := hid (HK.out.then (((Keep.refl (fun _ => False) wr).drew).trans hk2 (fun _ _ f => f)))
                 have hS2 : Hid (w2.cell? ⟨b1, o1 + k * 3, none⟩ = some (.int .i64 a.t) ∧ w2.cell? ⟨b1, o1 + k * 3 + 1, none⟩ = some (.int .i64 a.k) ∧ w2.cell? ⟨b1, o1 + k * 3 + 2, none⟩ = some (.slice a.A a.m a.c) ∧
              w2.cell? ⟨b2, o2 + k * 3, none⟩ = some (.int .i64 b.t) ∧ w2.cell? ⟨b2, o2 + k * 3 + 1, none⟩ = some (.int .i64 b.k) ∧ w2.cell? ⟨b2, o2 + k * 3 + 2, none⟩ = some (.slice b.A b.m b.c)) := by
                   obtain ⟨x1, y1, e1, g0, g1, g2⟩ := (HL.out.same HK2.out).at_ HA.out
                   obtain ⟨x2, y2, e2, k0, k1, k2⟩ := (HM.out.same HK2.out).at_ HB.out
                   cases e1; cases e2
                   exact hid ⟨g0, g1, g2, k0, k1, k2⟩
                 clear hk2))
          go_wp2_with fail
          go_roundw
          case rel => exact ⟨k + 1, by omega, by go_num, HK2.out, HT'⟩
          case measure => simp [RowKit.intOf]; omega
        · have hpe : peq a.pe b.pe = false := by simp [peq, hp]
          rw [hpe] at HC
          rw [sameE_no HA.out HB.out hp]
          clear hp hpe
          go_wp2_with fail
          go_region_held3 (fun w' => w'.cell? ⟨b1, o1 + k * 3, none⟩ = some (.int .i64 a.t) ∧ w'.cell? ⟨b1, o1 + k * 3 + 1, none⟩ = some (.int .i64 a.k) ∧ w'.cell? ⟨b1, o1 + k * 3 + 2, none⟩ = some (.slice a.A a.m a.c) ∧
              w'.cell? ⟨b2, o2 + k * 3, none⟩ = some (.int .i64 b.t) ∧ w'.cell? ⟨b2, o2 + k * 3 + 1, none⟩ = some (.int .i64 b.k) ∧ w'.cell? ⟨b2, o2 + k * 3 + 2, none⟩ = some (.slice b.A b.m b.c))
            (first | exact ⟨c0, c1, c2, d0, d1, d2⟩ | exact hS2.out | go_keep)
            (first
              | (go_at_call 25; refine (HC.out _ (Keep.refl _ _).drew).mono ?_; rintro e w2 ⟨rfl, hk2⟩
                 have HK2 := hid (HK.out.then (((Keep.refl (fun _ => False) wr).drew).trans hk2 (fun _ _ f => f)))
                 have hS2 : Hid (w2.cell? ⟨b1, o1 + k * 3, none⟩ = some (.int .i64 a.t) ∧ w2.cell? ⟨b1, o1 + k * 3 + 1, none⟩ = some (.int .i64 a.k) ∧ w2.cell? ⟨b1, o1 + k * 3 + 2, none⟩ = some (.slice a.A a.m a.c) ∧
              w2.cell? ⟨b2, o2 + k * 3, none⟩ = some (.int .i64 b.t) ∧ w2.cell? ⟨b2, o2 + k * 3 + 1, none⟩ = some (.int .i64 b.k) ∧ w2.cell? ⟨b2, o2 + k * 3 + 2, none⟩ = some (.slice b.A b.m b.c)) := by
                   obtain ⟨x1, y1, e1, g0, g1, g2⟩ := (HL.out.same HK2.out).at_ HA.out
                   obtain ⟨x2, y2, e2, k0, k1, k2⟩ := (HM.out.same HK2.out).at_ HB.out
                   cases e1; cases e2
                   exact hid ⟨g0, g1, g2, k0, k1, k2⟩
                 clear hk2))
          go_wp2_with fail
          go_ret
          exact ⟨rfl, HK2.out⟩
      · obtain rfl : k = n := by omega
        have ht : Hid (sameE l l2 = true) := by
          have := HT.out
          rw [List.take_of_length_le (by have := Hl.out; omega), List.take_of_length_le (by have := Hl2.out; omega)] at this
          exact hid (by simp [sameE, this])
        go_wp2_with fail
        go_ret
        exact ⟨by rw [ht.out]; rfl, HK.out⟩
  · rw [sameE_len (by omega)]
    have hf : ((n : Int) == (m : Int)) = false := by simpa using (show ¬ (n : Int) = m by omega)
    have hf2 : ((n : Int) != (m : Int)) = true := by simp [bne, hf]
    clear hnm
    go_enter Try.func21, Try.ntmps21
    go_wp2_with fail
    go_ret
    exact ⟨rfl, Keep.refl _ _⟩
end Go.Proofs.Ytbellndcgagclaa

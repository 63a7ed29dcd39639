import Derived.Test.YtbellndcgagclaaSlice
import Derived.Test.YtbellndcgagclaaSameE
namespace Go.Proofs.Ytbellndcgagclaa
open Go.RowKit
def IntPost (w : World) (q : Int) (e : Ending) (w' : World) : Prop := e = .returned (.int .i64 q) ∧ Same w w'
/-- so far all agree -/
def CommUpto (l m : List En) (k : Nat) : Prop := comm En.pe l m = k + comm En.pe (l.drop k) (m.drop k)
theorem CommUpto.zero (l m : List En) : CommUpto l m 0 := by simp [CommUpto]
theorem CommUpto.succ {l m : List En} {k : Nat} {a b : En} (h : CommUpto l m k) (ha : l[k]? = some a) (hb : m[k]? = some b) (hp : a.pe = b.pe) : CommUpto l m (k + 1) := by
  unfold CommUpto at h ⊢
  rw [h, drop_cons ha, drop_cons hb, comm, if_pos hp]; omega
theorem CommUpto.stop {l m : List En} {k : Nat} {a b : En} (h : CommUpto l m k) (ha : l[k]? = some a) (hb : m[k]? = some b) (hp : ¬ a.pe = b.pe) : comm En.pe l m = k := by
  rw [h, drop_cons ha, drop_cons hb, comm, if_neg hp]; omega
theorem CommUpto.end1 {l m : List En} {k : Nat} (h : CommUpto l m k) (ha : l.length ≤ k) : comm En.pe l m = k := by
  rw [h, List.drop_of_length_le ha]; simp [comm]
theorem CommUpto.end2 {l m : List En} {k : Nat} (h : CommUpto l m k) (ha : m.length ≤ k) : comm En.pe l m = k := by
  rw [h, List.drop_of_length_le ha]
  cases l.drop k <;> simp [comm]

set_option maxHeartbeats 8000000 in
set_option maxRecDepth 100000 in
theorem rcommon_any (w : World) (Av Bv : Nat → Prop) (X Y : Option Addr) (n c m d : Nat) (l l2 : List En) (h : Ls w Av X n c l) (h2 : Ls w Bv Y m d l2) (hn : n ≤ 1000) (hm : m ≤ 1000) :
    Calls Try.prog 15 #[.slice X n c, .slice Y m d] w (IntPost w (comm En.pe l l2)) := by
  have Hl := hid h.len
  have Hl2 := hid h2.len
  have HL := hid h
  have HM := hid h2
  clear h h2
  go_enter Try.func15, Try.ntmps15
  go_wp2_with fail
  go_loopw [5] (fun i wr => ∃ k : Nat, k ≤ n ∧ k ≤ m ∧ i = .int .i64 k ∧ Hid (Same w wr) ∧ Hid (CommUpto l l2 k)) (fun i _ => n - (RowKit.intOf i).toNat)
  case atStart => exact ⟨0, by omega, by omega, rfl, hid (Keep.refl _ _), hid (CommUpto.zero _ _)⟩
  case round =>
    obtain ⟨k, hk, hkm, rfl, HK, HT⟩ := hrel
    by_cases h1 : k < n
    · by_cases h2 : k < m
      · obtain ⟨a, ha⟩ := get_some (l := l) (k := k) (by have := Hl.out; omega)
        obtain ⟨b, hb⟩ := get_some (l := l2) (k := k) (by have := Hl2.out; omega)
        obtain ⟨b1, o1, rfl, c0, c1, c2⟩ := (HL.out.same HK.out).at_ ha
        obtain ⟨b2, o2, rfl, d0, d1, d2⟩ := (HM.out.same HK.out).at_ hb
        have HA := hid ha
        have HB := hid hb
        have HC := hid (fun W (hs : Same wr W) => alike_any W (fun i => Av i ∧ Bv i) a b (((HL.out.same HK.out).el a (List.mem_of_getElem? HA.out)).same hs |>.wide (fun _ _ h => h.1)) (((HM.out.same HK.out).el b (List.mem_of_getElem? HB.out)).same hs |>.wide (fun _ _ h => h.2)))
        clear ha hb
        have hk1 : (k : Int) < (n : Int) := by omega
        have hk2 : (k : Int) < (m : Int) := by omega
        unfold En.val at HC
        have hdr := hid (HC.out _ (Keep.refl _ wr).drew)
        clear HC
        by_cases hp : a.pe = b.pe
        · have hpe : peq a.pe b.pe = true := by simp [peq, hp]
          rw [hpe] at hdr
          have HT' := hid (HT.out.succ HA.out HB.out hp)
          clear hp hpe
          go_wp2_with fail
          go_region_held3 (fun W => W.cell? ⟨b1, o1 + k * 3, none⟩ = some (.int .i64 a.t) ∧ W.cell? ⟨b1, o1 + k * 3 + 1, none⟩ = some (.int .i64 a.k) ∧ W.cell? ⟨b1, o1 + k * 3 + 2, none⟩ = some (.slice a.A a.m a.c) ∧ W.cell? ⟨b2, o2 + k * 3, none⟩ = some (.int .i64 b.t) ∧ W.cell? ⟨b2, o2 + k * 3 + 1, none⟩ = some (.int .i64 b.k) ∧ W.cell? ⟨b2, o2 + k * 3 + 2, none⟩ = some (.slice b.A b.m b.c))
            (first | exact ⟨c0, c1, c2, d0, d1, d2⟩ | exact hS2.out | go_keep)
            (first
              | (go_at_call 25; refine hdr.out.mono ?_; rintro e w2 ⟨rfl, hk2⟩
                 have HK2 := hid (HK.out.then (((Keep.refl (fun _ => False) wr).drew).trans hk2 (fun _ _ f => f)))
                 have hS2 : Hid (w2.cell? ⟨b1, o1 + k * 3, none⟩ = some (.int .i64 a.t) ∧ w2.cell? ⟨b1, o1 + k * 3 + 1, none⟩ = some (.int .i64 a.k) ∧ w2.cell? ⟨b1, o1 + k * 3 + 2, none⟩ = some (.slice a.A a.m a.c) ∧ w2.cell? ⟨b2, o2 + k * 3, none⟩ = some (.int .i64 b.t) ∧ w2.cell? ⟨b2, o2 + k * 3 + 1, none⟩ = some (.int .i64 b.k) ∧ w2.cell? ⟨b2, o2 + k * 3 + 2, none⟩ = some (.slice b.A b.m b.c)) := by
                   obtain ⟨x1, y1, e1, g0, g1, g2⟩ := (HL.out.same HK2.out).at_ HA.out
                   obtain ⟨x2, y2, e2, k0, k1, k2⟩ := (HM.out.same HK2.out).at_ HB.out
                   cases e1; cases e2
                   exact hid ⟨g0, g1, g2, k0, k1, k2⟩
                 clear hk2))
          go_wp2_with fail
          go_roundw
          case rel => exact ⟨k + 1, by omega, by omega, by go_num, HK2, HT'⟩
          case measure => simp [RowKit.intOf]; omega
        · have hpe : peq a.pe b.pe = false := by simp [peq, hp]
          rw [hpe] at hdr
          have HT' := hid (HT.out.stop HA.out HB.out hp)
          clear hp hpe
          go_wp2_with fail
          go_region_held3 (fun W => W.cell? ⟨b1, o1 + k * 3, none⟩ = some (.int .i64 a.t) ∧ W.cell? ⟨b1, o1 + k * 3 + 1, none⟩ = some (.int .i64 a.k) ∧ W.cell? ⟨b1, o1 + k * 3 + 2, none⟩ = some (.slice a.A a.m a.c) ∧ W.cell? ⟨b2, o2 + k * 3, none⟩ = some (.int .i64 b.t) ∧ W.cell? ⟨b2, o2 + k * 3 + 1, none⟩ = some (.int .i64 b.k) ∧ W.cell? ⟨b2, o2 + k * 3 + 2, none⟩ = some (.slice b.A b.m b.c))
            (first | exact ⟨c0, c1, c2, d0, d1, d2⟩ | exact hS2.out | go_keep)
            (first
              | (go_at_call 25; refine hdr.out.mono ?_; rintro e w2 ⟨rfl, hk2⟩
                 have HK2 := hid (HK.out.then (((Keep.refl (fun _ => False) wr).drew).trans hk2 (fun _ _ f => f)))
                 have hS2 : Hid (w2.cell? ⟨b1, o1 + k * 3, none⟩ = some (.int .i64 a.t) ∧ w2.cell? ⟨b1, o1 + k * 3 + 1, none⟩ = some (.int .i64 a.k) ∧ w2.cell? ⟨b1, o1 + k * 3 + 2, none⟩ = some (.slice a.A a.m a.c) ∧ w2.cell? ⟨b2, o2 + k * 3, none⟩ = some (.int .i64 b.t) ∧ w2.cell? ⟨b2, o2 + k * 3 + 1, none⟩ = some (.int .i64 b.k) ∧ w2.cell? ⟨b2, o2 + k * 3 + 2, none⟩ = some (.slice b.A b.m b.c)) := by
                   obtain ⟨x1, y1, e1, g0, g1, g2⟩ := (HL.out.same HK2.out).at_ HA.out
                   obtain ⟨x2, y2, e2, k0, k1, k2⟩ := (HM.out.same HK2.out).at_ HB.out
                   cases e1; cases e2
                   exact hid ⟨g0, g1, g2, k0, k1, k2⟩
                 clear hk2))
          go_wp2_with fail
          go_ret
          exact ⟨by rw [HT'.out]; rfl, HK2.out⟩
      · obtain rfl : k = m := by omega
        have HT' := hid (HT.out.end2 (by have := Hl2.out; omega))
        go_wp2_with fail
        go_quiet (fail)
        go_wp2_with fail
        go_ret
        exact ⟨by rw [HT'.out]; rfl, HK.out.drewN _⟩
    · obtain rfl : k = n := by omega
      have HT' := hid (HT.out.end1 (by have := Hl.out; omega))
      go_wp2_with fail
      go_quiet (fail)
      go_wp2_with fail
      go_ret
      exact ⟨by rw [HT'.out]; rfl, HK.out.drewN _⟩
end Go.Proofs.Ytbellndcgagclaa

import Derived.Test.YtbellndcgagclaaComm1
namespace Go.Proofs.Ytbellndcgagclaa
open Go.RowKit
set_option maxHeartbeats 8000000 in
set_option maxRecDepth 100000 in
theorem common_any (w : World) (Av Bv : Nat → Prop) (lb lb2 : Nat) (r r2 : Option Nat) (X Y : Option Addr) (n c m d : Nat) (l l2 : List En) (hI : IsLog w Av lb r X c l) (hJ : IsLog w Bv lb2 r2 Y d l2) (hnl : l.length = n) (hml : l2.length = m) (hn : n ≤ 1000) (hm : m ≤ 1000) :
    Calls Try.prog 14 #[.pointer (some ⟨lb, 0, none⟩), .pointer (some ⟨lb2, 0, none⟩)] w (IntPost w (comm En.pe l l2)) := by
  have HI := hid hI
  have HJ := hid hJ
  have h := hI.ls
  have h2 := hJ.ls
  have hc1 := hid (fun W (hs : Same w W) => show W.cell? ⟨lb, 0, none⟩ = some (.slice X n c) by rw [← hnl]; exact (HI.out.same hs).c0)
  have hc2 := hid (fun W (hs : Same w W) => show W.cell? ⟨lb2, 0, none⟩ = some (.slice Y m d) by rw [← hml]; exact (HJ.out.same hs).c0)
  clear hI hJ
  rw [hnl] at h
  rw [hml] at h2
  clear hnl hml
  have Hl := hid h.len
  have Hl2 := hid h2.len
  have HL := hid h
  have HM := hid h2
  clear h h2
  go_enter Try.func14, Try.ntmps14
  go_wp2_with fail
  go_loopw [5] (fun i wr => ∃ k : Nat, k ≤ n ∧ k ≤ m ∧ i = .int .i64 k ∧ Hid (Same w wr) ∧ Hid (CommUpto l l2 k)) (fun i _ => n - (RowKit.intOf i).toNat)
  case atStart => exact ⟨0, by omega, by omega, rfl, hid (Keep.refl _ _), hid (CommUpto.zero _ _)⟩
  case round =>
    obtain ⟨k, hk, hkm, rfl, HK, HT⟩ := hrel
    have cl1 := hc1.out _ HK.out
    have cl2 := hc2.out _ HK.out
    by_cases h1 : k < n
    · by_cases h2 : k < m
      · obtain ⟨a, ha⟩ := get_some (l := l) (k := k) (by have := Hl.out; omega)
        obtain ⟨b, hb⟩ := get_some (l := l2) (k := k) (by have := Hl2.out; omega)
        obtain ⟨b1, o1, rfl, c0, c1, c2⟩ := (HL.out.same HK.out).at_ ha
        obtain ⟨b2, o2, rfl, d0, d1, d2⟩ := (HM.out.same HK.out).at_ hb
        have HA := hid ha
        have HB := hid hb
        have HC := hid (fun W (hs : Same wr W) => equal_any W (fun i => (Av i ∨ i = lb) ∧ (Bv i ∨ i = lb2)) a b (((HL.out.same HK.out).el a (List.mem_of_getElem? HA.out)).same hs |>.wide (fun _ _ h => h.1)) (((HM.out.same HK.out).el b (List.mem_of_getElem? HB.out)).same hs |>.wide (fun _ _ h => h.2)))
        clear ha hb
        have hk1 : (k : Int) < (n : Int) := by omega
        have hk2 : (k : Int) < (m : Int) := by omega
        unfold En.val at HC
        have hdr := hid (HC.out _ (Keep.refl _ wr).drew)
        clear HC
        by_cases hp : a.pe = b.pe
        · have hpe : peq a.pe b.pe = true := by simp [peq, hp]
          rw [hpe] at hdr
          have HT' := hid (HT.out.succ HA.out HB.out hp)
          clear hp hpe
          go_wp2_with fail
          go_region_held3 (fun W => W.cell? ⟨lb, 0, none⟩ = some (.slice (some ⟨b1, o1, none⟩) n c) ∧ W.cell? ⟨lb2, 0, none⟩ = some (.slice (some ⟨b2, o2, none⟩) m d) ∧ W.cell? ⟨b1, o1 + k * 3, none⟩ = some (.int .i64 a.t) ∧ W.cell? ⟨b1, o1 + k * 3 + 1, none⟩ = some (.int .i64 a.k) ∧ W.cell? ⟨b1, o1 + k * 3 + 2, none⟩ = some (.slice a.A a.m a.c) ∧ W.cell? ⟨b2, o2 + k * 3, none⟩ = some (.int .i64 b.t) ∧ W.cell? ⟨b2, o2 + k * 3 + 1, none⟩ = some (.int .i64 b.k) ∧ W.cell? ⟨b2, o2 + k * 3 + 2, none⟩ = some (.slice b.A b.m b.c))
            (first | exact ⟨cl1, cl2, c0, c1, c2, d0, d1, d2⟩ | exact hS2.out | go_keep)
            (first
              | (go_at_call 37; refine hdr.out.mono ?_; rintro e w2 ⟨rfl, hk2⟩
                 have HK2 := hid (HK.out.then (((Keep.refl (fun _ => False) wr).drew).trans hk2 (fun _ _ f => f)))
                 have hS2 : Hid (w2.cell? ⟨lb, 0, none⟩ = some (.slice (some ⟨b1, o1, none⟩) n c) ∧ w2.cell? ⟨lb2, 0, none⟩ = some (.slice (some ⟨b2, o2, none⟩) m d) ∧ w2.cell? ⟨b1, o1 + k * 3, none⟩ = some (.int .i64 a.t) ∧ w2.cell? ⟨b1, o1 + k * 3 + 1, none⟩ = some (.int .i64 a.k) ∧ w2.cell? ⟨b1, o1 + k * 3 + 2, none⟩ = some (.slice a.A a.m a.c) ∧ w2.cell? ⟨b2, o2 + k * 3, none⟩ = some (.int .i64 b.t) ∧ w2.cell? ⟨b2, o2 + k * 3 + 1, none⟩ = some (.int .i64 b.k) ∧ w2.cell? ⟨b2, o2 + k * 3 + 2, none⟩ = some (.slice b.A b.m b.c)) := by
                   obtain ⟨x1, y1, e1, g0, g1, g2⟩ := (HL.out.same HK2.out).at_ HA.out
                   obtain ⟨x2, y2, e2, k0, k1, k2⟩ := (HM.out.same HK2.out).at_ HB.out
                   cases e1; cases e2
                   exact hid ⟨hc1.out _ HK2.out, hc2.out _ HK2.out, g0, g1, g2, k0, k1, k2⟩
                 clear hk2))
          go_wp2_with fail
          go_roundw
          case rel => exact ⟨k + 1, by omega, by omega, by go_num, HK2, HT'⟩
          case measure => simp [RowKit.intOf]; omega
        · have hpe : peq a.pe b.pe = false := by simp [peq, hp]
          rw [hpe] at hdr
          have HT' := hid (HT.out.stop HA.out HB.out hp)
          clear hp hpe
          go_wp2_with fail
          go_region_held3 (fun W => W.cell? ⟨lb, 0, none⟩ = some (.slice (some ⟨b1, o1, none⟩) n c) ∧ W.cell? ⟨lb2, 0, none⟩ = some (.slice (some ⟨b2, o2, none⟩) m d) ∧ W.cell? ⟨b1, o1 + k * 3, none⟩ = some (.int .i64 a.t) ∧ W.cell? ⟨b1, o1 + k * 3 + 1, none⟩ = some (.int .i64 a.k) ∧ W.cell? ⟨b1, o1 + k * 3 + 2, none⟩ = some (.slice a.A a.m a.c) ∧ W.cell? ⟨b2, o2 + k * 3, none⟩ = some (.int .i64 b.t) ∧ W.cell? ⟨b2, o2 + k * 3 + 1, none⟩ = some (.int .i64 b.k) ∧ W.cell? ⟨b2, o2 + k * 3 + 2, none⟩ = some (.slice b.A b.m b.c))
            (first | exact ⟨cl1, cl2, c0, c1, c2, d0, d1, d2⟩ | exact hS2.out | go_keep)
            (first
              | (go_at_call 37; refine hdr.out.mono ?_; rintro e w2 ⟨rfl, hk2⟩
                 have HK2 := hid (HK.out.then (((Keep.refl (fun _ => False) wr).drew).trans hk2 (fun _ _ f => f)))
                 have hS2 : Hid (w2.cell? ⟨lb, 0, none⟩ = some (.slice (some ⟨b1, o1, none⟩) n c) ∧ w2.cell? ⟨lb2, 0, none⟩ = some (.slice (some ⟨b2, o2, none⟩) m d) ∧ w2.cell? ⟨b1, o1 + k * 3, none⟩ = some (.int .i64 a.t) ∧ w2.cell? ⟨b1, o1 + k * 3 + 1, none⟩ = some (.int .i64 a.k) ∧ w2.cell? ⟨b1, o1 + k * 3 + 2, none⟩ = some (.slice a.A a.m a.c) ∧ w2.cell? ⟨b2, o2 + k * 3, none⟩ = some (.int .i64 b.t) ∧ w2.cell? ⟨b2, o2 + k * 3 + 1, none⟩ = some (.int .i64 b.k) ∧ w2.cell? ⟨b2, o2 + k * 3 + 2, none⟩ = some (.slice b.A b.m b.c)) := by
                   obtain ⟨x1, y1, e1, g0, g1, g2⟩ := (HL.out.same HK2.out).at_ HA.out
                   obtain ⟨x2, y2, e2, k0, k1, k2⟩ := (HM.out.same HK2.out).at_ HB.out
                   cases e1; cases e2
                   exact hid ⟨hc1.out _ HK2.out, hc2.out _ HK2.out, g0, g1, g2, k0, k1, k2⟩
                 clear hk2))
          go_wp2_with fail
          go_ret
          exact ⟨by rw [HT'.out]; rfl, HK2.out⟩
      · obtain rfl : k = m := by omega
        have HT' := hid (HT.out.end2 (by have := Hl2.out; omega))
        go_wp2_with fail
        go_quiet (fail)
        go_wp2_with fail
        go_ret
        exact ⟨by rw [HT'.out]; rfl, HK.out.drewN _⟩
    · obtain rfl : k = n := by omega
      have HT' := hid (HT.out.end1 (by have := Hl.out; omega))
      go_wp2_with fail
      go_quiet (fail)
      go_wp2_with fail
      go_ret
      exact ⟨by rw [HT'.out]; rfl, HK.out.drewN _⟩
end Go.Proofs.Ytbellndcgagclaa

import Derived.Test.YtnejacmmbfeneaaGenR
namespace Go.Proofs.Ytnejacmmbfeneaa
open Go.RowKit Go.PlainAid

theorem good_at {c : CF} {d : Int} {l : List AV} (h : good c d l) : ∀ {k : Nat} {v : AV}, l[k]? = some v → okA c (d + dials (l.take k) + if v.kind = 1 then 1 else 0) v := by
  induction l generalizing d with
  | nil => intro k v hv; simp at hv
  | cons a l ih =>
    intro k v hv
    cases k with
    | zero =>
      simp at hv; subst hv
      have := h.1
      simpa [dials] using this
    | succ k =>
      have h2 := ih h.2 (k := k) (v := v) (by simpa using hv)
      have e : d + dials ((a :: l).take (k + 1)) = (d + if a.kind = 1 then 1 else 0) + dials (l.take k) := by
        rw [List.take_succ_cons]; simp only [dials]; omega
      rw [e]; exact h2
theorem dials_at {l : List AV} {k : Nat} {v : AV} (hv : l[k]? = some v) : dials (l.take (k + 1)) = dials (l.take k) + if v.kind = 1 then 1 else 0 := by
  rw [take_snoc hv, dials_append]; simp [dials]
def dnum (la : List AC) (k : Nat) : Int := dials ((la.map AC.val).take k)
theorem dnum_in (la : List AC) (k : Nat) : 0 ≤ dnum la k ∧ dnum la k ≤ la.length := by
  have h1 := dials_nn ((la.map AC.val).take k)
  have h2 := dials_le ((la.map AC.val).take k)
  have h3 : ((la.map AC.val).take k).length ≤ la.length := by rw [List.length_take, List.length_map]; omega
  exact ⟨h1, by unfold dnum; omega⟩
theorem one_src {s : List SR} {k : Int} {l : List Int} (h : s.map SR.val = [(k, l)]) : ∃ A c, s = [⟨k, A, c, l⟩] := by
  match s, h with
  | [⟨k', A, c, l'⟩], h =>
    simp [SR.val] at h
    obtain ⟨rfl, rfl⟩ := h
    exact ⟨A, c, rfl⟩
set_option maxRecDepth 100000 in
set_option maxHeartbeats 16000000 in
theorem refers_walk (w : World) (c : CF) (hm : CM w c) (hf : Few c) (m : RT) (seed many : Int) (hs0 : 0 ≤ seed) (hs1 : seed ≤ 18446744073709551615) (hlo : -9223372036854775808 ≤ many) (_hhi : many ≤ 9223372036854775807) : Calls Try.prog 8 #[.agg c.cells.toArray, .agg m.cells.toArray, .agg #[.int .u64 seed, .int .i64 many]] w fun e w' => e = .returned (.bool true) ∧ Same w w' := by
  have HB := hid (fun W (hk : Same (boxes w c m seed many) W) => bx_and (bx_of hk))
  have HW := hid (boxes_same w c m seed many)
  have HGR := hid (fun W (hk : Same w W) => great_any W c (hm.same hk) hf)
  have HAW := hid awake_any
  have HGEN := hid (fun W (hk : Same w W) n (hn : n ≤ 300) => generate_any W c (hm.same hk) m seed n hs0 hs1 hn)
  have HACT := hid (fun W (hk : Same w W) n (hn : n ≤ 300) (h1 : -9223372036854775808 ≤ n) => acts_any W c (hm.same hk) m seed n hs0 hs1 hn h1)
  have HMO := hid (fun W => mood_any W m)
  have HUQ := hid (fun a b l k h1 h2 => GenL.uniq (c := c) (m := m) (seed := seed) (a := a) (b := b) (l := l) (k := k) h1 h2)
  have HGD := hid (fun a l h => GenL.good (c := c) (m := m) (seed := seed) (a := a) (l := l) h)
  have HBS := hid (show boxes w c m seed many = ((w.alloc (.cells c.cells.toArray 42)).alloc (.cells m.cells.toArray 49)).alloc (.cells #[.int .u64 seed, .int .i64 many] 51) from rfl)
  rw [HBS.out] at HB HW
  clear hm hf HBS
  have hbx := HB.out _ (Keep.refl _ _)
  obtain ⟨cen, D, cD, dis, E, cE, edg, U, cU, uni, P, cP, pla, h0, h1, h2, h3, h4, h5, h6, h7, h8, h9⟩ := c
  obtain ⟨m0, m1, m2, m3, m4, m5, m6⟩ := m
  simp only [CF.cells, RT.cells] at *
  obtain ⟨c0, c1, c2, c3, c4, c5, c6, c7, c8, c9, c10, c11, c12, c13, c14, d0, d1, d2, d3, d4, d5, d6, e0, e1⟩ := hbx
  by_cases hbig : 300 < many
  · go_enter Try.func8, Try.ntmps8
    go_wp2_with fail
    (with_reducible refine (HGR.out _ HW.out).mono ?_)
    rintro e w1 ⟨gb, rfl, hgb, hs1⟩
    have HS1 := hid hs1
    clear hs1 hgb
    clear c0 c1 c2 c3 c4 c5 c6 c7 c8 c9 c10 c11 c12 c13 c14 d0 d1 d2 d3 d4 d5 d6 e0 e1
    obtain ⟨c0, c1, c2, c3, c4, c5, c6, c7, c8, c9, c10, c11, c12, c13, c14, d0, d1, d2, d3, d4, d5, d6, e0, e1⟩ := HB.out _ HS1.out
    cases gb
    · go_wp2_with (go_at_call 9; (with_reducible refine (HAW.out _).mono ?_); rintro e w2 ⟨rfl, hs2⟩; have HS2 := hid hs2; clear hs2)
      go_ret
      exact ⟨rfl, (HW.out.then HS1.out).then HS2.out⟩
    · go_wp2_with (go_at_call 9; (with_reducible refine (HAW.out _).mono ?_); rintro e w2 ⟨rfl, hs2⟩; have HS2 := hid hs2; clear hs2)
      go_ret
      exact ⟨rfl, (HW.out.then HS1.out).then HS2.out⟩
  · have hmn : many ≤ 300 := by omega
    have HPL := hid (show placesN ⟨cen, D, cD, dis, E, cE, edg, U, cU, uni, P, cP, pla, h0, h1, h2, h3, h4, h5, h6, h7, h8, h9⟩ = cen + 1 + uni.length from rfl)
    go_enter Try.func8, Try.ntmps8
    go_wp2_with fail
    (with_reducible refine (HGR.out _ HW.out).mono ?_)
    rintro e w1 ⟨gb, rfl, hgb, hs1⟩
    have HS1 := hid hs1
    clear hs1 hgb
    clear c0 c1 c2 c3 c4 c5 c6 c7 c8 c9 c10 c11 c12 c13 c14 d0 d1 d2 d3 d4 d5 d6 e0 e1
    obtain ⟨c0, c1, c2, c3, c4, c5, c6, c7, c8, c9, c10, c11, c12, c13, c14, d0, d1, d2, d3, d4, d5, d6, e0, e1⟩ := HB.out _ HS1.out
    cases gb
    rotate_left 1
    · go_wp2_with (go_at_call 9; (with_reducible refine (HAW.out _).mono ?_); rintro e w2 ⟨rfl, hs2⟩; have HS2 := hid hs2; clear hs2)
      go_ret
      exact ⟨rfl, (HW.out.then HS1.out).then HS2.out⟩
    · have HKW1 := hid (HW.out.then HS1.out)
      have HKB1 := hid HS1.out
      go_wp2_with fail
      (with_reducible refine (HGEN.out _ HKW1.out _ hmn).mono ?_)
      rintro e w2 ⟨A2, cp2, la2, rfl, hg2, hl2, ha2, hs9⟩
      have HGD2 := hid (HGD.out _ _ hg2)
      have HVN := hid hg2
      have HA2 := hid ha2
      have hla : la2.length ≤ 1000 := hl2.1
      have HCN := hid (show 0 < la2.length → 1 ≤ cen ∧ cen ≤ 9 ∧ (uni.length : Int) ≤ 256 from fun h => by
        rcases hg2 with ⟨hv, _⟩ | ⟨_, he⟩
        · exact ⟨(vnum_ok hv).1.1, (vnum_ok hv).1.2.1, (vnum_ok hv).2⟩
        · simp at he; rw [he] at h; simp at h)
      clear hg2 ha2 hl2
      have HK2 : Hid (Same w1 w2) := hid (by first | with_reducible exact hs9 | with_reducible exact (Keep.refl _ _).drew.then hs9)
      have HKW2 := hid (HKW1.out.then HK2.out)
      have HKB2 := hid (HKB1.out.then HK2.out)
      have hS2 := hid (HB.out _ HKB2.out)
      clear hs9
      clear c0 c1 c2 c3 c4 c5 c6 c7 c8 c9 c10 c11 c12 c13 c14 d0 d1 d2 d3 d4 d5 d6 e0 e1 hS2
      go_wp2_with fail
      go_loopw [7, 28] (fun u i wr => ∃ k : Nat, k ≤ la2.length ∧ i = .int .i64 k ∧ u = .int .i64 (dnum la2 k) ∧ Hid (Same w2 wr)) (fun _ i _ => la2.length - (RowKit.intOf i).toNat)
      case atStart => exact ⟨0, by omega, rfl, int_of (by simp [dnum, dials]), hid (Keep.refl _ _)⟩
      case round =>
        obtain ⟨k, hk, rfl, rfl, HSR⟩ := hrel
        obtain ⟨hd0, hd1⟩ := dnum_in la2 k
        by_cases hlt : k < la2.length
        · obtain ⟨a, ha⟩ := get_some (l := la2) (k := k) hlt
          obtain ⟨b1, o1, rfl, hb1, p0, p1, p2, p3, p4, p5, p6, p7⟩ := ac_at (HA2.out.sl.same HSR.out) ha
          have hv : (la2.map AC.val)[k]? = some a.val := by rw [List.getElem?_map, ha]; rfl
          have hok := good_at HGD2.out hv
          have HDN := hid (dials_at hv)
          have hao := (HA2.out.ok a (List.mem_of_getElem? ha)).same HSR.out
          have HAO := hid hao
          obtain ⟨c0, c1, c2, c3, c4, c5, c6, c7, c8, c9, c10, c11, c12, c13, c14, d0, d1, d2, d3, d4, d5, d6, e0, e1⟩ := HB.out _ (HKB2.out.then HSR.out)
          have hb9 : w.heap.size < wr.heap.size := by have h1 := HKW2.out.size; have h2 := (HKB2.out.then HSR.out).size; simp only [World.size_alloc] at h2; omega
          obtain ⟨kd, wh, nq, cl, ot, no, aS, acS, asr, aG, acG, agr⟩ := a
          simp only at p0 p1 p2 p3 p4 p5 p6 p7
          clear ha hv hao
          have hk0 : (0 : Int) ≤ (k : Int) := by omega
          have hk1 : (k : Int) < (la2.length : Int) := by omega
          change Hid (dnum la2 (k + 1) = dnum la2 k + _) at HDN
          simp only [AC.val] at hok HDN
          rw [show (0 : Int) + dials ((la2.map AC.val).take k) = dnum la2 k by rw [dnum]; omega] at hok
          generalize dnum la2 k = dk at *
          unfold okA at hok
          simp only at hok
          rcases hok with ⟨rfl, h1, h2, sk, sl, h3, h4⟩ | ⟨rfl | rfl, h1, h2⟩ | ⟨rfl, h1⟩ | ⟨rfl | rfl | rfl, h1, h2⟩ | ⟨rfl, h1, h2, h3, h4⟩ | ⟨rfl | rfl, h1, h2⟩ | rfl | rfl | rfl | rfl | rfl
          · as_aux_lemma =>
              obtain ⟨sA, sc, rfl⟩ := one_src h3
              obtain ⟨b2, o2, rfl, hb2, s0, s1⟩ := sr_at (HAO.out.src) (k := 0) (a := ⟨sk, sA, sc, sl⟩) rfl
              have hsn := HAO.out.nodes ⟨sk, sA, sc, sl⟩ (by simp)
              have HSN := hid hsn
              have HOKN := hid h4
              have hsl : sl.length ≤ 100000 := hsn.2
              clear h3 h4 hsn
              simp only [Nat.zero_mul, Nat.add_zero] at s0 s1
              go_wp2_with fail
              go_loop [61] (fun i => ∃ j : Nat, j ≤ sl.length ∧ i = .int .i64 j) (fun i => sl.length - (RowKit.intOf i).toNat)
              case atStart => exact ⟨0, by omega, rfl⟩
              case round =>
                obtain ⟨j, hj, rfl⟩ := hrel
                by_cases hlj : j < sl.length
                · obtain ⟨n, hn⟩ := get_some (l := sl) (k := j) hlj
                  have hnn := HOKN.out.1 n (List.mem_of_getElem? hn)
                  obtain ⟨hn0, hn1⟩ := hnn
                  obtain ⟨b3, o3, rfl, hb3, q1⟩ := ints_at HSN.out.1 hn
                  have hj0 : (0 : Int) ≤ (j : Int) := by omega
                  have hj1 : (j : Int) < (sl.length : Int) := by omega
                  by_cases hjz : j = 0
                  · have hjz2 : (j : Int) ≤ 0 := by omega
                    clear hn hjz
                    go_wp2_with fail
                    go_round
                    case rel => exact ⟨j + 1, by omega, by go_num⟩
                    case measure => simp [RowKit.intOf]; omega
                  · obtain ⟨n2, hn2⟩ := get_some (l := sl) (k := j - 1) (by omega)
                    obtain ⟨b4, o4, he4, hb4, q2⟩ := ints_at HSN.out.1 hn2
                    have hlt2 := HOKN.out.2 (j - 1) n2 n hn2 (by rw [show j - 1 + 1 = j by omega]; exact hn)
                    injection he4 with he4
                    injection he4 with he5 he6
                    subst he5
                    subst he6
                    have hjp : 0 < (j : Int) := by omega
                    clear hn hn2 hjz
                    go_wp2_with fail
                    go_round
                    case rel => exact ⟨j + 1, by omega, by go_num⟩
                    case measure => simp [RowKit.intOf]; omega
                · have hj1 : (sl.length : Int) ≤ (j : Int) := by omega
                  go_wp2_with fail
                  go_roundw
                  case rel => exact ⟨k + 1, by omega, by go_num, int_of (by rw [HDN.out]; simp), hid (HSR.out.alloc _)⟩
                  case measure => simp [RowKit.intOf]; omega
          · as_aux_lemma =>
              go_wp2_with fail
              go_roundw
              case rel => exact ⟨k + 1, by omega, by go_num, int_of (by rw [HDN.out]; simp), hid (HSR.out.alloc _)⟩
              case measure => simp [RowKit.intOf]; omega
          · as_aux_lemma =>
              go_wp2_with fail
              go_roundw
              case rel => exact ⟨k + 1, by omega, by go_num, int_of (by rw [HDN.out]; simp), hid (HSR.out.alloc _)⟩
              case measure => simp [RowKit.intOf]; omega
          · as_aux_lemma =>
              rw [HPL.out] at h1
              have hcn := HCN.out (by omega)
              have hg1 := hid (show (agr.length : Int) = cen + 1 + uni.length by omega)
              have hg2 : (((agr.length : Int)) != cen + 1 + uni.length) = false := by rw [hg1.out]; simp
              obtain ⟨hg5, hg3, hg4⟩ := hcn
              clear h1
              go_wp2_with fail
              go_roundw
              case rel => exact ⟨k + 1, by omega, by go_num, int_of (by rw [HDN.out]; simp), hid (HSR.out.alloc _)⟩
              case measure => simp [RowKit.intOf]; omega
          · as_aux_lemma =>
              go_wp2_with fail
              go_roundw
              case rel => exact ⟨k + 1, by omega, by go_num, int_of (by rw [HDN.out]; simp), hid (HSR.out.alloc _)⟩
              case measure => simp [RowKit.intOf]; omega
          · as_aux_lemma =>
              go_wp2_with fail
              go_roundw
              case rel => exact ⟨k + 1, by omega, by go_num, int_of (by rw [HDN.out]; simp), hid (HSR.out.alloc _)⟩
              case measure => simp [RowKit.intOf]; omega
          · as_aux_lemma =>
              go_wp2_with fail
              go_roundw
              case rel => exact ⟨k + 1, by omega, by go_num, int_of (by rw [HDN.out]; simp), hid (HSR.out.alloc _)⟩
              case measure => simp [RowKit.intOf]; omega
          · as_aux_lemma =>
              go_wp2_with fail
              go_roundw
              case rel => exact ⟨k + 1, by omega, by go_num, int_of (by rw [HDN.out]; simp), hid (HSR.out.alloc _)⟩
              case measure => simp [RowKit.intOf]; omega
          · as_aux_lemma =>
              go_wp2_with fail
              go_roundw
              case rel => exact ⟨k + 1, by omega, by go_num, int_of (by rw [HDN.out]; simp), hid (HSR.out.alloc _)⟩
              case measure => simp [RowKit.intOf]; omega
          · as_aux_lemma =>
              go_wp2_with fail
              go_roundw
              case rel => exact ⟨k + 1, by omega, by go_num, int_of (by rw [HDN.out]; simp), hid (HSR.out.alloc _)⟩
              case measure => simp [RowKit.intOf]; omega
          · as_aux_lemma =>
              go_wp2_with fail
              go_roundw
              case rel => exact ⟨k + 1, by omega, by go_num, int_of (by rw [HDN.out]; simp), hid (HSR.out.alloc _)⟩
              case measure => simp [RowKit.intOf]; omega
          · as_aux_lemma =>
              go_wp2_with fail
              go_roundw
              case rel => exact ⟨k + 1, by omega, by go_num, int_of (by rw [HDN.out]; simp), hid (HSR.out.alloc _)⟩
              case measure => simp [RowKit.intOf]; omega
          · as_aux_lemma =>
              go_wp2_with fail
              go_roundw
              case rel => exact ⟨k + 1, by omega, by go_num, int_of (by rw [HDN.out]; simp), hid (HSR.out.alloc _)⟩
              case measure => simp [RowKit.intOf]; omega
          · as_aux_lemma =>
              go_wp2_with fail
              go_roundw
              case rel => exact ⟨k + 1, by omega, by go_num, int_of (by rw [HDN.out]; simp), hid (HSR.out.alloc _)⟩
              case measure => simp [RowKit.intOf]; omega
          · as_aux_lemma =>
              go_wp2_with fail
              go_roundw
              case rel => exact ⟨k + 1, by omega, by go_num, int_of (by rw [HDN.out]; simp), hid (HSR.out.alloc _)⟩
              case measure => simp [RowKit.intOf]; omega
        · have hk1 : (la2.length : Int) ≤ (k : Int) := by omega
          go_wp2_with fail
          (with_reducible refine (HAW.out _).mono ?_)
          rintro e w7 ⟨rfl, hs9⟩
          have HS7 := hid hs9
          clear hs9
          go_wp2_with fail
          go_ret
          exact ⟨rfl, (HKW2.out.then HSR.out).then HS7.out⟩
end Go.Proofs.Ytnejacmmbfeneaa

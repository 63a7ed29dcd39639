import Derived.Test.YtnejacmmbfeneaaGenJ
namespace Go.Proofs.Ytnejacmmbfeneaa
open Go.RowKit Go.PlainAid

section
variable {w w' : World} {b r d : Nat} {c : CF} {x : AS}
set_option maxRecDepth 100000 in
set_option maxHeartbeats 8000000 in
theorem rdial_any (h : RM w b r d c x) (hd1 : 1 ≤ (c.dis.length : Int)) (hd2 : (c.dis.length : Int) ≤ 4096) (hx0 : 0 ≤ x.di) (hx1 : x.di ≤ 99000) : Calls Try.prog 53 #[.pointer (some ⟨b, 0, none⟩)] w (ActPost w b r d c (dialM c.dis.length x)) := by
  have HY := hid (dialM_eq c.dis.length x)
  have HM0 := hid h
  have HLT := hid h.lts
  have HR := hid (Blk.made w 59 #[.int .i64 0, .int .i64 0, .int .i64 0, .int .i64 0, .int .i64 0, .int .i64 0, .slice none 0 0, .slice none 0 0])
  have HK := hid ((Keep.refl (brd b r d) w).alloc (.cells #[.int .i64 0, .int .i64 0, .int .i64 0, .int .i64 0, .int .i64 0, .int .i64 0, .slice none 0 0, .slice none 0 0] 59))
  have HM := hid (h.same ((Keep.refl (fun _ => False) w).alloc (.cells #[.int .i64 0, .int .i64 0, .int .i64 0, .int .i64 0, .int .i64 0, .int .i64 0, .slice none 0 0, .slice none 0 0] 59)))
  clear h
  go_enter Try.func53, Try.ntmps53
  go_upto_region 1 with fail
  generalize w.alloc (.cells #[.int .i64 0, .int .i64 0, .int .i64 0, .int .i64 0, .int .i64 0, .int .i64 0, .slice none 0 0, .slice none 0 0] 59) = w1 at *
  obtain ⟨t0, t1, t2, t3, t4, t5, t6, t7, t8, t9, t10, t11, t12, t13, t14, t15, td, ts, tw, tf, tl⟩ := HM.out.rc
  have HM9 := hid (HM.out.same (Keep.refl _ _).drew)
  have HK9 := hid HK.out.drew
  have HR9 := hid HR.out.drew
  clear HM HK HR
  have HM := HM9
  have HK := HK9
  have HR := HR9
  clear HM9 HK9 HR9
  go_region_held3 (fun W => W.cell? ⟨b, 0, none⟩ = some (.pointer (some ⟨r, 0, none⟩)) ∧ W.cell? ⟨b, 2, none⟩ = some (.slice c.D c.dis.length c.cD))
    (first | exact ⟨t0, t2⟩ | exact HS.out | go_keep)
    (first | (
      go_at_call 13
      (with_reducible refine (roll_any _ r _ _ HM.out.rng (by omega)).mono ?_)
      rintro e w2 ⟨rfl, hg9, hk9⟩
      have HM2 := hid (HM.out.draw hg9 hk9)
      have HK2 := hid (HK.out.trans hk9 (fun _ _ e => .inr (.inl e)))
      have HR2 := hid (HR.out.keep hk9 (fun e => by have := HLT.out; omega))
      clear HR
      have HR := HR2
      clear HR2
      have HS := hid (show w2.cell? ⟨b, 0, none⟩ = some (.pointer (some ⟨r, 0, none⟩)) ∧ w2.cell? ⟨b, 2, none⟩ = some (.slice c.D c.dis.length c.cD) from ⟨HM2.out.rc.c0, HM2.out.rc.c2⟩)
      clear hg9 hk9 HM HK
      have HM := HM2
      have HK := HK2
      clear HM2 HK2))
  clear HS
  clear t0 t1 t2 t3 t4 t5 t6 t7 t8 t9 t10 t11 t12 t13 t14 t15 td ts tw tf tl
  obtain ⟨hn0, hn1⟩ := roll_in c.dis.length x.s hd1
  generalize roll c.dis.length x.s = n at *
  obtain ⟨t0, t1, t2, t3, t4, t5, t6, t7, t8, t9, t10, t11, t12, t13, t14, t15, td, ts, tw, tf, tl⟩ := HM.out.rc
  go_upto_region 3 with (
    go_at_call 13
    (with_reducible refine (roll_any _ r _ _ HM.out.rng (by omega)).mono ?_)
    rintro e w3 ⟨rfl, hg9, hk9⟩
    have HM2 := hid (HM.out.draw hg9 hk9)
    have HK2 := hid (HK.out.trans hk9 (fun _ _ e => .inr (.inl e)))
    have HR2 := hid (HR.out.keep hk9 (fun e => by have := HLT.out; omega))
    clear HR
    have HR := HR2
    clear HR2
    clear t0 t1 t2 t3 t4 t5 t6 t7 t8 t9 t10 t11 t12 t13 t14 t15 td ts tw tf tl
    clear hg9 hk9 HM HK
    have HM := HM2
    have HK := HK2
    clear HM2 HK2
    obtain ⟨t0, t1, t2, t3, t4, t5, t6, t7, t8, t9, t10, t11, t12, t13, t14, t15, td, ts, tw, tf, tl⟩ := HM.out.rc
    obtain ⟨hk0, hk1⟩ := roll_in 3 (x.draw c.dis.length).s (by omega))
  generalize roll 3 (x.draw c.dis.length).s = k at *
  have HW3 := hid (show w.heap.size + 1 ≤ w3.heap.size from HR.out.lt)
  have HI3 := hid ((Blk.made w3 3 #[.int .i64 n]).alloc (.cells #[.int .i64 (1 + k), .slice (some ⟨w3.heap.size, 0, none⟩) 1 1] 61))
  have hb4 := Blk.made (w3.alloc (.cells #[.int .i64 n] 3)) 61 #[.int .i64 (1 + k), .slice (some ⟨w3.heap.size, 0, none⟩) 1 1]
  rw [World.size_alloc] at hb4
  have HB4 := hid hb4
  clear hb4
  have HS9 := hid (((Keep.refl (fun _ => False) w3).alloc (.cells #[.int .i64 n] 3)).alloc (.cells #[.int .i64 (1 + k), .slice (some ⟨w3.heap.size, 0, none⟩) 1 1] 61))
  have HM9 := hid (HM.out.same HS9.out)
  have HK9 := hid (HK.out.then HS9.out)
  have HR9 := hid (HR.out.keep HS9.out (fun f => f))
  clear HM HK HR HS9
  have HM := HM9
  have HK := HK9
  have HR := HR9
  clear HM9 HK9 HR9
  generalize (w3.alloc (.cells #[.int .i64 n] 3)).alloc (.cells #[.int .i64 (1 + k), .slice (some ⟨w3.heap.size, 0, none⟩) 1 1] 61) = w4 at *
  generalize hs3 : w3.heap.size = s at *
  have hs1 : w.heap.size < s := by have := HW3.out; omega
  clear hs3 HW3
  generalize hX : (x.draw c.dis.length).draw 3 = x3 at *
  have hxd : x3.di = x.di := by rw [← hX]; rfl
  clear hX
  clear t0 t1 t2 t3 t4 t5 t6 t7 t8 t9 t10 t11 t12 t13 t14 t15 td ts tw tf tl
  obtain ⟨t0, t1, t2, t3, t4, t5, t6, t7, t8, t9, t10, t11, t12, t13, t14, t15, td, ts, tw, tf, tl⟩ := HM.out.rc
  go_upto_if 30 with (
    go_at_call 15
    (with_reducible refine (dchance_any _ r _ _ _ HM.out.rng (by omega)).mono ?_)
    rintro e w5 ⟨rfl, hg9, hk9⟩
    have HM2 := hid (HM.out.draw hg9 hk9)
    have HK2 := hid (HK.out.trans hk9 (fun _ _ e => .inr (.inl e)))
    have HR2 := hid (HR.out.keep hk9 (fun e => by have := HLT.out; omega))
    clear HR
    have HR := HR2
    clear HR2
    have HB42 := hid (HB4.out.keep hk9 (fun e => by have := HLT.out; omega))
    clear HB4
    have HB4 := HB42
    clear HB42
    have HI32 := hid (HI3.out.keep hk9 (fun e => by have := HLT.out; omega))
    clear HI3
    have HI3 := HI32
    clear HI32
    clear t0 t1 t2 t3 t4 t5 t6 t7 t8 t9 t10 t11 t12 t13 t14 t15 td ts tw tf tl
    clear hg9 hk9 HM HK
    have HM := HM2
    have HK := HK2
    clear HM2 HK2
    obtain ⟨t0, t1, t2, t3, t4, t5, t6, t7, t8, t9, t10, t11, t12, t13, t14, t15, td, ts, tw, tf, tl⟩ := HM.out.rc)
  go_cut [5] from 30 (fun u5 w' => Hid (∃ b5 : Nat, w.heap.size < b5 ∧ Blk w' (s + 1) 61 #[.int .i64 (1 + k), .slice (some ⟨b5, 0, none⟩) (srcM c.dis.length n x3).1.length (srcM c.dis.length n x3).1.length] ∧ Blk w' b5 3 (icellsC (srcM c.dis.length n x3).1).toArray ∧ RM w' b r d c (srcM c.dis.length n x3).2 ∧ Keep (brd b r d) w w' ∧ Blk w' w.heap.size 59 #[.int .i64 0, .int .i64 0, .int .i64 0, .int .i64 0, .int .i64 0, .int .i64 0, .slice none 0 0, .slice none 0 0]))
  case first =>
    cases hb : chc 1 2 x3.s
    · have HCB := hid hb
      clear hb
      go_wp2_with fail
      go_meet
      exact hid ⟨s, hs1, by rw [srcM, HCB.out]; exact HB4.out, by rw [srcM, HCB.out]; exact HI3.out, by rw [srcM, HCB.out]; exact HM.out, HK.out, HR.out⟩
    · have HCB := hid hb
      clear hb
      go_upto_region 4 with fail
      have HM9 := hid (HM.out.same (Keep.refl _ _).drew)
      have HK9 := hid HK.out.drew
      have HR9 := hid HR.out.drew
      clear HM HK HR
      have HM := HM9
      have HK := HK9
      have HR := HR9
      clear HM9 HK9 HR9
      have HB49 := hid HB4.out.drew
      clear HB4
      have HB4 := HB49
      clear HB49
      have HI39 := hid HI3.out.drew
      clear HI3
      have HI3 := HI39
      clear HI39
      go_region_held3 (fun W => W.cell? ⟨b, 0, none⟩ = some (.pointer (some ⟨r, 0, none⟩)) ∧ W.cell? ⟨b, 2, none⟩ = some (.slice c.D c.dis.length c.cD))
        (first | exact ⟨t0, t2⟩ | exact HS.out | go_keep)
        (first | (
          go_at_call 13
          (with_reducible refine (roll_any _ r _ _ HM.out.rng (by omega)).mono ?_)
          rintro e w6 ⟨rfl, hg9, hk9⟩
          have HM2 := hid (HM.out.draw hg9 hk9)
          have HK2 := hid (HK.out.trans hk9 (fun _ _ e => .inr (.inl e)))
          have HR2 := hid (HR.out.keep hk9 (fun e => by have := HLT.out; omega))
          clear HR
          have HR := HR2
          clear HR2
          have HB42 := hid (HB4.out.keep hk9 (fun e => by have := HLT.out; omega))
          clear HB4
          have HB4 := HB42
          clear HB42
          have HI32 := hid (HI3.out.keep hk9 (fun e => by have := HLT.out; omega))
          clear HI3
          have HI3 := HI32
          clear HI32
          have HS := hid (show w6.cell? ⟨b, 0, none⟩ = some (.pointer (some ⟨r, 0, none⟩)) ∧ w6.cell? ⟨b, 2, none⟩ = some (.slice c.D c.dis.length c.cD) from ⟨HM2.out.rc.c0, HM2.out.rc.c2⟩)
          clear hg9 hk9 HM HK
          have HM := HM2
          have HK := HK2
          clear HM2 HK2))
      clear HS
      clear t0 t1 t2 t3 t4 t5 t6 t7 t8 t9 t10 t11 t12 t13 t14 t15 td ts tw tf tl
      have HQ := hid (show srcM c.dis.length n x3 = (pair n (roll c.dis.length (aft 2 x3.s)), (x3.draw 2).draw c.dis.length) by rw [srcM, HCB.out]; rfl)
      rw [AS.draw_s] at *
      obtain ⟨hm0, hm1⟩ := roll_in c.dis.length (aft 2 x3.s) hd1
      generalize roll c.dis.length (aft 2 x3.s) = q at *
      have c4 : w6.cell? ⟨s + 1, 1, none⟩ = some (.slice (some ⟨s, 0, none⟩) 1 1) := HB4.out.at_ 1
      have f4 := HB4.out.free 1
      have l4 := HB4.out.lt
      by_cases g1 : q < n
      · have HPR := hid (show pair n q = [q, n] by rw [pair, if_pos g1])
        go_wp2_with fail
        go_meet
        have hz : (w6.setCell ⟨s + 1, 1, none⟩ (.slice (some ⟨w6.heap.size, 0, none⟩) 2 2)).heap.size = w6.heap.size := by simp [World.setCell]
        have hn2 := Blk.made (w6.setCell ⟨s + 1, 1, none⟩ (.slice (some ⟨w6.heap.size, 0, none⟩) 2 2)) 3 #[.int .i64 q, .int .i64 n]
        rw [hz] at hn2
        have hs2 := (HB4.out.put 1 (.slice (some ⟨w6.heap.size, 0, none⟩) 2 2)).alloc (.cells #[.int .i64 q, .int .i64 n] 3)
        have hkk := (HK.out.setCell (p := ⟨s + 1, 1, none⟩) (fun hlt => absurd (show s + 1 < w.heap.size from hlt) (by omega)) (.slice (some ⟨w6.heap.size, 0, none⟩) 2 2)).alloc (.cells #[.int .i64 q, .int .i64 n] 3)
        have hk6 := ((Keep.refl (· = s + 1) w6).put 1 (.slice (some ⟨w6.heap.size, 0, none⟩) 2 2)).alloc (.cells #[.int .i64 q, .int .i64 n] 3)
        have hgg := HM.out.far hk6 (fun e => by have := HLT.out; omega) (fun e => by have := HLT.out; omega) (fun e => by have := HLT.out; omega)
        exact hid ⟨w6.heap.size, by have := HR.out.lt; omega, by rw [HQ.out]; simp only [HPR.out]; exact hs2, by rw [HQ.out]; simp only [HPR.out]; exact hn2, by rw [HQ.out]; exact hgg, hkk, HR.out.keep hk6 (fun e => by omega)⟩
      · by_cases g2 : n < q
        · have HPR := hid (show pair n q = [n, q] by rw [pair, if_neg g1, if_pos g2])
          go_wp2_with fail
          go_meet
          have hz : (w6.setCell ⟨s + 1, 1, none⟩ (.slice (some ⟨w6.heap.size, 0, none⟩) 2 2)).heap.size = w6.heap.size := by simp [World.setCell]
          have hn2 := Blk.made (w6.setCell ⟨s + 1, 1, none⟩ (.slice (some ⟨w6.heap.size, 0, none⟩) 2 2)) 3 #[.int .i64 n, .int .i64 q]
          rw [hz] at hn2
          have hs2 := (HB4.out.put 1 (.slice (some ⟨w6.heap.size, 0, none⟩) 2 2)).alloc (.cells #[.int .i64 n, .int .i64 q] 3)
          have hkk := (HK.out.setCell (p := ⟨s + 1, 1, none⟩) (fun hlt => absurd (show s + 1 < w.heap.size from hlt) (by omega)) (.slice (some ⟨w6.heap.size, 0, none⟩) 2 2)).alloc (.cells #[.int .i64 n, .int .i64 q] 3)
          have hk6 := ((Keep.refl (· = s + 1) w6).put 1 (.slice (some ⟨w6.heap.size, 0, none⟩) 2 2)).alloc (.cells #[.int .i64 n, .int .i64 q] 3)
          have hgg := HM.out.far hk6 (fun e => by have := HLT.out; omega) (fun e => by have := HLT.out; omega) (fun e => by have := HLT.out; omega)
          exact hid ⟨w6.heap.size, by have := HR.out.lt; omega, by rw [HQ.out]; simp only [HPR.out]; exact hs2, by rw [HQ.out]; simp only [HPR.out]; exact hn2, by rw [HQ.out]; exact hgg, hkk, HR.out.keep hk6 (fun e => by omega)⟩
        · have HPR := hid (show pair n q = [n] by rw [pair, if_neg g1, if_neg g2])
          go_wp2_with fail
          go_meet
          exact hid ⟨s, hs1, by rw [HQ.out, HPR.out]; exact HB4.out, by rw [HQ.out, HPR.out]; exact HI3.out, by rw [HQ.out]; exact HM.out, HK.out, HR.out⟩
  case rest =>
    obtain ⟨b5, hb5, hs4, hi5, hm5, hk5, hr5⟩ := hcut.out
    clear hcut HM HK HR HB4 HI3
    clear t0 t1 t2 t3 t4 t5 t6 t7 t8 t9 t10 t11 t12 t13 t14 t15 td ts tw tf tl
    have hsd : (srcM c.dis.length n x3).2.di = x.di := by rw [srcM_di, hxd]
    have hnl := srcM_len c.dis.length n x3
    generalize (srcM c.dis.length n x3).1 = nodes at *
    generalize (srcM c.dis.length n x3).2 = x4 at *
    have HR := hid hr5
    have HK := hid hk5
    have HM := hid hm5
    have HS4 := hid hs4
    have HI5 := hid hi5
    have HNL := hid hnl
    clear hs4 hi5 hm5 hk5 hr5 hnl
    obtain ⟨t0, t1, t2, t3, t4, t5, t6, t7, t8, t9, t10, t11, t12, t13, t14, t15, td, ts, tw, tf, tl⟩ := HM.out.rc
    rw [hsd] at td
    have HSD := hid hsd
    clear hsd hxd
    go_upto_region 10 with fail
    have hkp := (Keep.refl (· = b) wc).put 16 (.int .i64 (x.di + 1))
    have HM9 := hid (HM.out.dialed (u := x.di + 1) (by rw [HSD.out]))
    have HK9 := hid (HK.out.trans (hkp.wide (T := brd b r d) (fun i _ e => .inl e)) (fun _ _ e => e))
    have HR9 := hid (HR.out.keep hkp (fun e => by have := HLT.out; omega))
    have HS9 := hid (HS4.out.keep hkp (fun e => by have := HLT.out; omega))
    have HI9 := hid (HI5.out.keep hkp (fun e => by have := HLT.out; omega))
    clear HM HK HR HS4 HI5 hkp
    clear t0 t1 t2 t3 t4 t5 t6 t7 t8 t9 t10 t11 t12 t13 t14 t15 td ts tw tf tl
    generalize wc.setCell ⟨b, 16, none⟩ (.int .i64 (x.di + 1)) = w7 at *
    have s0 := HS9.out.at_ 0
    have s1 := HS9.out.at_ 1
    have HW7 := hid (show w.heap.size + 1 ≤ w7.heap.size from HR9.out.lt)
    have hss := (Keep.refl (fun _ => False) w7).alloc (.cells #[.int .i64 (1 + k), .slice (some ⟨b5, 0, none⟩) nodes.length nodes.length] 61)
    have HBS := hid (Blk.made w7 61 #[.int .i64 (1 + k), .slice (some ⟨b5, 0, none⟩) nodes.length nodes.length])
    have HM := hid (HM9.out.same hss)
    have HK := hid (HK9.out.then hss)
    have HR := hid (HR9.out.keep hss (fun f => f))
    have HI5 := hid (HI9.out.keep hss (fun f => f))
    clear HM9 HK9 HR9 HS9 HI9 hss
    have rr := HR.out.free
    have rlt := HR.out.lt
    have rz0 := HR.out.at_ 0
    have rz1 := HR.out.at_ 1
    have rz2 := HR.out.at_ 2
    have rz3 := HR.out.at_ 3
    have rz4 := HR.out.at_ 4
    have rz5 := HR.out.at_ 5
    have rz6 := HR.out.at_ 6
    have rz7 := HR.out.at_ 7
    go_wp2_with fail
    have HP := hid (Blk.put8 HR.out (.int .i64 1) (.int .i64 0) (.int .i64 0) (.int .i64 0) (.int .i64 0) (.int .i64 n) (.slice (some ⟨w7.heap.size, 0, none⟩) 1 1) (.slice none 0 0))
    generalize (((((((((w7.alloc (.cells #[.int .i64 (1 + k), .slice (some ⟨b5, 0, none⟩) nodes.length nodes.length] 61)).setCell ⟨w.heap.size, 0, none⟩ (.int .i64 1)).setCell ⟨w.heap.size, 1, none⟩ (.int .i64 0)).setCell ⟨w.heap.size, 2, none⟩ (.int .i64 0)).setCell ⟨w.heap.size, 3, none⟩ (.int .i64 0)).setCell ⟨w.heap.size, 4, none⟩ (.int .i64 0)).setCell ⟨w.heap.size, 5, none⟩ (.int .i64 n)).setCell ⟨w.heap.size, 6, none⟩ (.slice (some ⟨w7.heap.size, 0, none⟩) 1 1)).setCell ⟨w.heap.size, 7, none⟩ (.slice none 0 0)) = w9 at *
    have r0 := HP.out.1.at_ 0
    have r1 := HP.out.1.at_ 1
    have r2 := HP.out.1.at_ 2
    have r3 := HP.out.1.at_ 3
    have r4 := HP.out.1.at_ 4
    have r5 := HP.out.1.at_ 5
    have r6 := HP.out.1.at_ 6
    have r7 := HP.out.1.at_ 7
    refine bodyPost_ret (v := .agg #[.int .i64 1, .int .i64 0, .int .i64 0, .int .i64 0, .int .i64 0, .int .i64 n, .slice (some ⟨w7.heap.size, 0, none⟩) 1 1, .slice none 0 0]) (by simp [results, Try.results53, go_sem, r0, r1, r2, r3, r4, r5, r6, r7]) rfl ?_
    exact ActPost.of (a := dialA n (1 + k) w7.heap.size b5 nodes) rfl (by rw [HY.out, dialA_val]) HM.out HK.out HP.out.2 (Nat.le_refl _) HLT.out (dialA_ok (HBS.out.keep HP.out.2 (fun e => by have := HW7.out; omega)) (HI5.out.keep HP.out.2 (fun e => by omega)) (by have := HW7.out; omega) (by omega) HNL.out)
end
end Go.Proofs.Ytnejacmmbfeneaa

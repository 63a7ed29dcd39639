import Derived.Test.YtkkenfgpmoediaaCallM
namespace Go.Proofs.Ytkkenfgpmoediaa
open Go.RowKit

/-! ## Unmarshal of what Marshal wrote -/
section
variable {w : World} {rb : Nat} {Av : Nat → Prop} {A : Option Addr} {n c : Nat}
theorem rd_int {x : Int} {rest : List UInt8} (h : Rd w rb Av A n c ⟨encI x ++ rest, 0⟩) (hx : i64ok x) : Calls Try.prog 40 #[.pointer (some ⟨rb, 0, none⟩)] w (RPost w rb Av ⟨rest, 0⟩ (.int .i64 x)) := by
  have := rInt_any w rb Av A n c _ h
  rwa [rdInt_enc hx rest] at this
theorem rd_str {s : ByteArray} {rest : List UInt8} (h : Rd w rb Av A n c ⟨encD s.data.toList ++ rest, 0⟩) (hs : s.size ≤ 40) (hr : rest.length ≤ 100000) : Calls Try.prog 41 #[.pointer (some ⟨rb, 0, none⟩)] w (RPost w rb Av ⟨rest, 0⟩ (.string s)) := by
  have e : s.data.toList.length = s.size := Array.length_toList
  have hd := encD_le' (b := s.data.toList) (by omega)
  have := rString_any w rb Av A n c _ h (by simp only [List.length_append]; omega)
  rwa [rdBytes_enc (by omega) rest, strOf_data] at this
theorem rd_ints {l : List Int} (h : Rd w rb Av A n c ⟨encL l ++ [], 0⟩) (hl : l.length ≤ 200) (he : ∀ x ∈ l, i64ok x) : Calls Try.prog 42 #[.pointer (some ⟨rb, 0, none⟩)] w (SPost w rb Av 3 ⟨[], 0⟩ (icells l)) := by
  have hd := encL_le' (l := l) (by omega) he
  have := rInts_any w rb Av A n c _ h (by simp only [List.length_append, List.length_nil]; omega)
  rwa [rdInts_enc (by omega) he []] at this
end
set_option maxHeartbeats 32000000 in
set_option maxRecDepth 10000000 in
theorem unmarshal_any (w : World) (Av : Nat → Prop) (A : Option Addr) (n c : Nat) (s : CL) (hS : Sl w Av 1 A n (bcells (encCL s))) (hok : OkL s) (hv : VL s) : Calls Try.prog 18 #[.slice A n c] w fun e w' => ∃ lb, e = .returned (.tuple #[.pointer (some ⟨lb, 0, none⟩), .int .i64 0]) ∧ LS w w' lb s := by
  have hlen : (encI s.call).length + (encI s.st).length + (encI s.since).length + (encI s.cen).length + (encI s.ep).length + (encD s.name.data.toList).length + (encI s.ver).length + (encL s.ans).length ≤ 3000 := by
    have := encCL_le hok
    simp only [encCL, List.length_append] at this
    omega
  have hn : n ≤ 3000 := by
    have := hS.len
    have h2 := encCL_le hok
    simp only [bcells_len] at this
    omega
  have HR := hid (newReader_any w Av A n c _ hS (by omega))
  have HOK := hid hok
  have hal := hok.n
  have hel := hv.el
  have hT := hid validTick_any
  have hV := hid validEpoch_any
  have hC := hid validCentre_any
  have hP := hid validProtocol_any
  have hCl := hid validCall_any
  obtain ⟨call, st, since, cen, ep, name, ver, ans⟩ := s
  obtain ⟨v1, v2, v3, v4, v5, v6, v7, v8⟩ := hv
  simp only at v1 v2 v3 v4 v5 v6 v7 v8 hlen hal hel
  have e0 : encCL ⟨call, st, since, cen, ep, name, ver, ans⟩ = encI call ++ (encI st ++ (encI since ++ (encI cen ++ (encI ep ++ (encD name.data.toList ++ (encI ver ++ (encL ans ++ []))))))) := by simp [encCL]
  rw [e0] at HR
  have HEL := hid hel
  have HLN := hid hlen
  have hcl : vN call 1 = true := vN_iff.2 v1
  have l1 : ¬ st < 1 := by omega
  have l5 : ¬ 5 < st := by omega
  have hal2 : ¬ (200 : Int) < (ans.length : Int) := by omega
  have HIC := hid (icells_len ans)
  clear hS hlen hel e0 v7 v8
  by_cases h1 : st = 1
  · subst h1
    have htk : vN since 0 = true := vN_iff.2 (v3 (.inl rfl))
    rcases v5 with vo | vo
    · have hce : vC cen = true := vC_iff.2 vo.1
      have hep : vN ep 1 = true := vN_iff.2 vo.2
      have hcm : (cen == (-1 : Int)) = false := by simp; omega
      rcases v6 with vp | vp
      · have hpr : vP name.size ver = true := vP_iff.2 vp
        have hnm : (name.toList == []) = false := by
          by_cases hq : (name.toList == []) = true
          · have hq2 : name.toList = [] := by simpa using hq
            rw [ByteArray.toList_eq] at hq2
            have hq3 : name.data.toList.length = name.size := Array.length_toList
            rw [hq2] at hq3
            simp at hq3
            omega
          · simpa using hq
        go_enter Try.func18, Try.ntmps18
        go_wp2_with fail
        refine HR.out.mono ?_
        rintro e w1 ⟨rb, A1, c1, rfl, hrb, hR, hk1⟩
        have HK := hid hk1
        have HRd := hid hR
        clear hk1 hR
        go_wp2_with fail
        refine (rd_int HRd.out HOK.out.call).mono ?_
        rintro e w2 ⟨A2, n2, c2, rfl, hR2, hk2⟩
        have HRd1 := hid hR2
        have HK1 := hid (HK.out.trans hk2 (fun i hi e => by omega))
        clear hR2 hk2
        go_wp2_with fail
        refine (rd_int HRd1.out HOK.out.st).mono ?_
        rintro e w3 ⟨A3, n3, c3, rfl, hR3, hk3⟩
        have HRd2 := hid hR3
        have HK2 := hid (HK1.out.trans hk3 (fun i hi e => by omega))
        clear hR3 hk3
        go_wp2_with fail
        refine (rd_int HRd2.out HOK.out.since).mono ?_
        rintro e w4 ⟨A4, n4, c4, rfl, hR4, hk4⟩
        have HRd3 := hid hR4
        have HK3 := hid (HK2.out.trans hk4 (fun i hi e => by omega))
        clear hR4 hk4
        go_wp2_with fail
        refine (rd_int HRd3.out HOK.out.cen).mono ?_
        rintro e w5 ⟨A5, n5, c5, rfl, hR5, hk5⟩
        have HRd4 := hid hR5
        have HK4 := hid (HK3.out.trans hk5 (fun i hi e => by omega))
        clear hR5 hk5
        go_wp2_with fail
        refine (rd_int HRd4.out HOK.out.ep).mono ?_
        rintro e w6 ⟨A6, n6, c6, rfl, hR6, hk6⟩
        have HRd5 := hid hR6
        have HK5 := hid (HK4.out.trans hk6 (fun i hi e => by omega))
        clear hR6 hk6
        go_wp2_with fail
        refine (rd_str HRd5.out HOK.out.name (by have := HLN.out; simp only [List.length_append, List.length_nil]; omega)).mono ?_
        rintro e w7 ⟨A7, n7, c7, rfl, hR7, hk7⟩
        have HRd6 := hid hR7
        have HK6 := hid (HK5.out.trans hk7 (fun i hi e => by omega))
        clear hR7 hk7
        go_wp2_with fail
        refine (rd_int HRd6.out HOK.out.ver).mono ?_
        rintro e w8 ⟨A8, n8, c8, rfl, hR8, hk8⟩
        have HRd7 := hid hR8
        have HK7 := hid (HK6.out.trans hk8 (fun i hi e => by omega))
        clear hR8 hk8
        go_wp2_with fail
        refine (rd_ints HRd7.out hal HOK.out.el).mono ?_
        rintro e w9 ⟨A9, n9, c9, B, rfl, hR9, hk9, hB9⟩
        have HRd8 := hid hR9
        have HK8 := hid (HK7.out.trans hk9 (fun i hi e => by omega))
        have HB9 := hid hB9
        clear hR9 hk9 hB9
        have HFI := hid (finish_any w9 rb _ A9 n9 c9 _ HRd8.out (by simp))
        have hSB : Sl w9 (fun _ => False) 1 B ans.length (icells ans) := by
          have hl := HIC.out
          refine ⟨by rw [hl]; omega, fun hp => ?_⟩
          obtain ⟨g, rfl, hg, hb⟩ := HB9.out (by rw [hl]; exact hp)
          exact ⟨g, 0, rfl, hb.lt, fun f => f, fun j u hu => by
            rw [Nat.zero_add, hb.at_ j]
            simpa using hu⟩
        have HSB := hid hSB
        rw [HIC.out]
        clear hSB
        go_wp2_with (first
          | (go_at_call 43; refine HFI.out.mono ?_; rintro e w10 ⟨rfl, rfl⟩
             rw [show endE ⟨[], 0⟩ = 0 by decide])
          | (go_at_call 22; refine (hCl.out _ _).mono ?_; rintro e w10 ⟨rfl, rfl⟩; rw [hcl])
          | (go_at_call 23; refine (hT.out _ _).mono ?_; rintro e w10 ⟨rfl, rfl⟩; rw [htk])
          | (go_at_call 44; refine (hC.out _ _).mono ?_; rintro e w10 ⟨rfl, rfl⟩; rw [hce])
          | (go_at_call 36; refine (hV.out _ _).mono ?_; rintro e w10 ⟨rfl, rfl⟩; rw [hep])
          | (go_at_call 37; refine (hP.out _ _ _).mono ?_; rintro e w10 ⟨rfl, rfl⟩; rw [hpr]))
        go_loopw [115] (fun i wi => ∃ j : Nat, j ≤ ans.length ∧ i = .int .i64 j ∧ wi = w9) (fun i _ => ans.length - (RowKit.intOf i).toNat)
        case atStart => exact ⟨0, by omega, rfl, rfl⟩
        case round =>
          obtain ⟨j, hj, rfl, rfl⟩ := hrel
          by_cases hjl : j < ans.length
          · obtain ⟨v, hvv⟩ := get_some (l := ans) (k := j) hjl
            obtain ⟨b1, o1, rfl, _, _, hr1⟩ := HSB.out.at_ (by omega)
            have y1 := hr1 j (.int .i64 v) (by simp [icells, hvv])
            have hb15 := HEL.out v (List.mem_of_getElem? hvv)
            obtain ⟨hb0, hb1⟩ := hb15
            have hb0' : ¬ v < 0 := by omega
            have hb1' : ¬ 15 < v := by omega
            have hj1 : (j : Int) < (ans.length : Int) := by omega
            have hj3 : (j : Int) + 1 ≤ 9223372036854775807 := by omega
            have hj0 : (0 : Int) ≤ (j : Int) := by omega
            clear hr1 hvv
            go_wp2_with fail
            go_roundw
            case rel => exact ⟨j + 1, by omega, by go_num, trivial⟩
            case measure => simp [RowKit.intOf]; omega
          · have HSR := hid (HSB.out.src (Keep.refl (fun _ => False) wr))
            go_wp2_with (
              at_builtin
              refine EIn.law2 (.const (.slice none 0 0)) (.tmp 133) (.slice none 0 0) B ans.length ans.length rfl rfl rfl rfl wr.heap.size 0 [] (icells ans) ans.length _ (Nat.zero_add _) rfl (Own.nil _ _ _ _) (by rw [HIC.out]; omega) HSR.out (icells_one _) (by omega) (by unfold maxLen; omega) (Nat.le_refl _) ?_
              intro A' c' w2 ho hg hw
              have HO := hid ho
              have HKc := hid ((Keep.refl (fun _ => False) wr).app (Own.nil wr wr.heap.size 3 1) hg (fun g h1 h2 => by omega))
              clear ho hg hw)
            go_ret2
            have hz := HK8.out.size
            have hzc := HKc.out.size
            have hbl := HO.out.block
            have hblt := HO.out.lt
            refine ⟨_, rfl, A'.map (·.block), A', c', ⟨Blk.made w2 54 _, Own.rebase (World.ownsRow.alloc HO.out _) (fun g _ => Nat.zero_le g), rfl, fun g e => ?_⟩, (HK8.out.then HKc.out).alloc _, by omega, fun g e => ?_⟩
            · have := hblt g (by rw [← e]; cases A' <;> rfl)
              omega
            · have := hbl g (by rw [← e]; cases A' <;> rfl)
              omega
      · obtain ⟨vn, vv, va⟩ := vp
        subst vn vv va
        have hpr : vP (ByteArray.size ⟨#[]⟩) 0 = false := by decide
        have hnm : ((⟨#[]⟩ : ByteArray).toList == []) = true := by kernel_rfl
        go_enter Try.func18, Try.ntmps18
        go_wp2_with fail
        refine HR.out.mono ?_
        rintro e w1 ⟨rb, A1, c1, rfl, hrb, hR, hk1⟩
        have HK := hid hk1
        have HRd := hid hR
        clear hk1 hR
        go_wp2_with fail
        refine (rd_int HRd.out HOK.out.call).mono ?_
        rintro e w2 ⟨A2, n2, c2, rfl, hR2, hk2⟩
        have HRd1 := hid hR2
        have HK1 := hid (HK.out.trans hk2 (fun i hi e => by omega))
        clear hR2 hk2
        go_wp2_with fail
        refine (rd_int HRd1.out HOK.out.st).mono ?_
        rintro e w3 ⟨A3, n3, c3, rfl, hR3, hk3⟩
        have HRd2 := hid hR3
        have HK2 := hid (HK1.out.trans hk3 (fun i hi e => by omega))
        clear hR3 hk3
        go_wp2_with fail
        refine (rd_int HRd2.out HOK.out.since).mono ?_
        rintro e w4 ⟨A4, n4, c4, rfl, hR4, hk4⟩
        have HRd3 := hid hR4
        have HK3 := hid (HK2.out.trans hk4 (fun i hi e => by omega))
        clear hR4 hk4
        go_wp2_with fail
        refine (rd_int HRd3.out HOK.out.cen).mono ?_
        rintro e w5 ⟨A5, n5, c5, rfl, hR5, hk5⟩
        have HRd4 := hid hR5
        have HK4 := hid (HK3.out.trans hk5 (fun i hi e => by omega))
        clear hR5 hk5
        go_wp2_with fail
        refine (rd_int HRd4.out HOK.out.ep).mono ?_
        rintro e w6 ⟨A6, n6, c6, rfl, hR6, hk6⟩
        have HRd5 := hid hR6
        have HK5 := hid (HK4.out.trans hk6 (fun i hi e => by omega))
        clear hR6 hk6
        go_wp2_with fail
        refine (rd_str HRd5.out HOK.out.name (by have := HLN.out; simp only [List.length_append, List.length_nil]; omega)).mono ?_
        rintro e w7 ⟨A7, n7, c7, rfl, hR7, hk7⟩
        have HRd6 := hid hR7
        have HK6 := hid (HK5.out.trans hk7 (fun i hi e => by omega))
        clear hR7 hk7
        go_wp2_with fail
        refine (rd_int HRd6.out HOK.out.ver).mono ?_
        rintro e w8 ⟨A8, n8, c8, rfl, hR8, hk8⟩
        have HRd7 := hid hR8
        have HK7 := hid (HK6.out.trans hk8 (fun i hi e => by omega))
        clear hR8 hk8
        go_wp2_with fail
        refine (rd_ints HRd7.out hal HOK.out.el).mono ?_
        rintro e w9 ⟨A9, n9, c9, B, rfl, hR9, hk9, hB9⟩
        have HRd8 := hid hR9
        have HK8 := hid (HK7.out.trans hk9 (fun i hi e => by omega))
        have HB9 := hid hB9
        clear hR9 hk9 hB9
        have HFI := hid (finish_any w9 rb _ A9 n9 c9 _ HRd8.out (by simp))
        have hSB : Sl w9 (fun _ => False) 1 B ([] : List Int).length (icells ([] : List Int)) := by
          have hl := HIC.out
          refine ⟨by rw [hl]; omega, fun hp => ?_⟩
          obtain ⟨g, rfl, hg, hb⟩ := HB9.out (by rw [hl]; exact hp)
          exact ⟨g, 0, rfl, hb.lt, fun f => f, fun j u hu => by
            rw [Nat.zero_add, hb.at_ j]
            simpa using hu⟩
        have HSB := hid hSB
        rw [HIC.out]
        clear hSB
        go_wp2_with (first
          | (go_at_call 43; refine HFI.out.mono ?_; rintro e w10 ⟨rfl, rfl⟩
             rw [show endE ⟨[], 0⟩ = 0 by decide])
          | (go_at_call 22; refine (hCl.out _ _).mono ?_; rintro e w10 ⟨rfl, rfl⟩; rw [hcl])
          | (go_at_call 23; refine (hT.out _ _).mono ?_; rintro e w10 ⟨rfl, rfl⟩; rw [htk])
          | (go_at_call 44; refine (hC.out _ _).mono ?_; rintro e w10 ⟨rfl, rfl⟩; rw [hce])
          | (go_at_call 36; refine (hV.out _ _).mono ?_; rintro e w10 ⟨rfl, rfl⟩; rw [hep])
          | (go_at_call 37; refine (hP.out _ _ _).mono ?_; rintro e w10 ⟨rfl, rfl⟩; rw [hpr]))
        go_loopw [115] (fun i wi => ∃ j : Nat, j ≤ ([] : List Int).length ∧ i = .int .i64 j ∧ wi = w9) (fun i _ => ([] : List Int).length - (RowKit.intOf i).toNat)
        case atStart => exact ⟨0, by omega, rfl, rfl⟩
        case round =>
          obtain ⟨j, hj, rfl, rfl⟩ := hrel
          by_cases hjl : j < ([] : List Int).length
          · exact absurd hjl (by simp)
          · have HSR := hid (HSB.out.src (Keep.refl (fun _ => False) wr))
            go_wp2_with (
              at_builtin
              refine EIn.law2 (.const (.slice none 0 0)) (.tmp 133) (.slice none 0 0) B ([] : List Int).length ([] : List Int).length rfl rfl rfl rfl wr.heap.size 0 [] (icells ([] : List Int)) ([] : List Int).length _ (Nat.zero_add _) rfl (Own.nil _ _ _ _) (by rw [HIC.out]; omega) HSR.out (icells_one _) (by omega) (by unfold maxLen; omega) (Nat.le_refl _) ?_
              intro A' c' w2 ho hg hw
              have HO := hid ho
              have HKc := hid ((Keep.refl (fun _ => False) wr).app (Own.nil wr wr.heap.size 3 1) hg (fun g h1 h2 => by omega))
              clear ho hg hw)
            go_ret2
            have hz := HK8.out.size
            have hzc := HKc.out.size
            have hbl := HO.out.block
            have hblt := HO.out.lt
            refine ⟨_, rfl, A'.map (·.block), A', c', ⟨Blk.made w2 54 _, Own.rebase (World.ownsRow.alloc HO.out _) (fun g _ => Nat.zero_le g), rfl, fun g e => ?_⟩, (HK8.out.then HKc.out).alloc _, by omega, fun g e => ?_⟩
            · have := hblt g (by rw [← e]; cases A' <;> rfl)
              omega
            · have := hbl g (by rw [← e]; cases A' <;> rfl)
              omega
    · obtain ⟨vo1, vo2, vo3⟩ := vo
      subst vo1 vo2
      have hce : vC (-1) = false := by decide
      have hep : vN 0 1 = false := by decide
      rcases v6 with vp | vp
      · have hpr : vP name.size ver = true := vP_iff.2 vp
        have hnm : (name.toList == []) = false := by
          by_cases hq : (name.toList == []) = true
          · have hq2 : name.toList = [] := by simpa using hq
            rw [ByteArray.toList_eq] at hq2
            have hq3 : name.data.toList.length = name.size := Array.length_toList
            rw [hq2] at hq3
            simp at hq3
            omega
          · simpa using hq
        go_enter Try.func18, Try.ntmps18
        go_wp2_with fail
        refine HR.out.mono ?_
        rintro e w1 ⟨rb, A1, c1, rfl, hrb, hR, hk1⟩
        have HK := hid hk1
        have HRd := hid hR
        clear hk1 hR
        go_wp2_with fail
        refine (rd_int HRd.out HOK.out.call).mono ?_
        rintro e w2 ⟨A2, n2, c2, rfl, hR2, hk2⟩
        have HRd1 := hid hR2
        have HK1 := hid (HK.out.trans hk2 (fun i hi e => by omega))
        clear hR2 hk2
        go_wp2_with fail
        refine (rd_int HRd1.out HOK.out.st).mono ?_
        rintro e w3 ⟨A3, n3, c3, rfl, hR3, hk3⟩
        have HRd2 := hid hR3
        have HK2 := hid (HK1.out.trans hk3 (fun i hi e => by omega))
        clear hR3 hk3
        go_wp2_with fail
        refine (rd_int HRd2.out HOK.out.since).mono ?_
        rintro e w4 ⟨A4, n4, c4, rfl, hR4, hk4⟩
        have HRd3 := hid hR4
        have HK3 := hid (HK2.out.trans hk4 (fun i hi e => by omega))
        clear hR4 hk4
        go_wp2_with fail
        refine (rd_int HRd3.out HOK.out.cen).mono ?_
        rintro e w5 ⟨A5, n5, c5, rfl, hR5, hk5⟩
        have HRd4 := hid hR5
        have HK4 := hid (HK3.out.trans hk5 (fun i hi e => by omega))
        clear hR5 hk5
        go_wp2_with fail
        refine (rd_int HRd4.out HOK.out.ep).mono ?_
        rintro e w6 ⟨A6, n6, c6, rfl, hR6, hk6⟩
        have HRd5 := hid hR6
        have HK5 := hid (HK4.out.trans hk6 (fun i hi e => by omega))
        clear hR6 hk6
        go_wp2_with fail
        refine (rd_str HRd5.out HOK.out.name (by have := HLN.out; simp only [List.length_append, List.length_nil]; omega)).mono ?_
        rintro e w7 ⟨A7, n7, c7, rfl, hR7, hk7⟩
        have HRd6 := hid hR7
        have HK6 := hid (HK5.out.trans hk7 (fun i hi e => by omega))
        clear hR7 hk7
        go_wp2_with fail
        refine (rd_int HRd6.out HOK.out.ver).mono ?_
        rintro e w8 ⟨A8, n8, c8, rfl, hR8, hk8⟩
        have HRd7 := hid hR8
        have HK7 := hid (HK6.out.trans hk8 (fun i hi e => by omega))
        clear hR8 hk8
        go_wp2_with fail
        refine (rd_ints HRd7.out hal HOK.out.el).mono ?_
        rintro e w9 ⟨A9, n9, c9, B, rfl, hR9, hk9, hB9⟩
        have HRd8 := hid hR9
        have HK8 := hid (HK7.out.trans hk9 (fun i hi e => by omega))
        have HB9 := hid hB9
        clear hR9 hk9 hB9
        have HFI := hid (finish_any w9 rb _ A9 n9 c9 _ HRd8.out (by simp))
        have hSB : Sl w9 (fun _ => False) 1 B ans.length (icells ans) := by
          have hl := HIC.out
          refine ⟨by rw [hl]; omega, fun hp => ?_⟩
          obtain ⟨g, rfl, hg, hb⟩ := HB9.out (by rw [hl]; exact hp)
          exact ⟨g, 0, rfl, hb.lt, fun f => f, fun j u hu => by
            rw [Nat.zero_add, hb.at_ j]
            simpa using hu⟩
        have HSB := hid hSB
        rw [HIC.out]
        clear hSB
        go_wp2_with (first
          | (go_at_call 43; refine HFI.out.mono ?_; rintro e w10 ⟨rfl, rfl⟩
             rw [show endE ⟨[], 0⟩ = 0 by decide])
          | (go_at_call 22; refine (hCl.out _ _).mono ?_; rintro e w10 ⟨rfl, rfl⟩; rw [hcl])
          | (go_at_call 23; refine (hT.out _ _).mono ?_; rintro e w10 ⟨rfl, rfl⟩; rw [htk])
          | (go_at_call 44; refine (hC.out _ _).mono ?_; rintro e w10 ⟨rfl, rfl⟩; rw [hce])
          | (go_at_call 36; refine (hV.out _ _).mono ?_; rintro e w10 ⟨rfl, rfl⟩; rw [hep])
          | (go_at_call 37; refine (hP.out _ _ _).mono ?_; rintro e w10 ⟨rfl, rfl⟩; rw [hpr]))
        go_loopw [115] (fun i wi => ∃ j : Nat, j ≤ ans.length ∧ i = .int .i64 j ∧ wi = w9) (fun i _ => ans.length - (RowKit.intOf i).toNat)
        case atStart => exact ⟨0, by omega, rfl, rfl⟩
        case round =>
          obtain ⟨j, hj, rfl, rfl⟩ := hrel
          by_cases hjl : j < ans.length
          · obtain ⟨v, hvv⟩ := get_some (l := ans) (k := j) hjl
            obtain ⟨b1, o1, rfl, _, _, hr1⟩ := HSB.out.at_ (by omega)
            have y1 := hr1 j (.int .i64 v) (by simp [icells, hvv])
            have hb15 := HEL.out v (List.mem_of_getElem? hvv)
            obtain ⟨hb0, hb1⟩ := hb15
            have hb0' : ¬ v < 0 := by omega
            have hb1' : ¬ 15 < v := by omega
            have hj1 : (j : Int) < (ans.length : Int) := by omega
            have hj3 : (j : Int) + 1 ≤ 9223372036854775807 := by omega
            have hj0 : (0 : Int) ≤ (j : Int) := by omega
            clear hr1 hvv
            go_wp2_with fail
            go_roundw
            case rel => exact ⟨j + 1, by omega, by go_num, trivial⟩
            case measure => simp [RowKit.intOf]; omega
          · have HSR := hid (HSB.out.src (Keep.refl (fun _ => False) wr))
            go_wp2_with (
              at_builtin
              refine EIn.law2 (.const (.slice none 0 0)) (.tmp 133) (.slice none 0 0) B ans.length ans.length rfl rfl rfl rfl wr.heap.size 0 [] (icells ans) ans.length _ (Nat.zero_add _) rfl (Own.nil _ _ _ _) (by rw [HIC.out]; omega) HSR.out (icells_one _) (by omega) (by unfold maxLen; omega) (Nat.le_refl _) ?_
              intro A' c' w2 ho hg hw
              have HO := hid ho
              have HKc := hid ((Keep.refl (fun _ => False) wr).app (Own.nil wr wr.heap.size 3 1) hg (fun g h1 h2 => by omega))
              clear ho hg hw)
            go_ret2
            have hz := HK8.out.size
            have hzc := HKc.out.size
            have hbl := HO.out.block
            have hblt := HO.out.lt
            refine ⟨_, rfl, A'.map (·.block), A', c', ⟨Blk.made w2 54 _, Own.rebase (World.ownsRow.alloc HO.out _) (fun g _ => Nat.zero_le g), rfl, fun g e => ?_⟩, (HK8.out.then HKc.out).alloc _, by omega, fun g e => ?_⟩
            · have := hblt g (by rw [← e]; cases A' <;> rfl)
              omega
            · have := hbl g (by rw [← e]; cases A' <;> rfl)
              omega
      · obtain ⟨vn, vv, va⟩ := vp
        subst vn vv va
        have hpr : vP (ByteArray.size ⟨#[]⟩) 0 = false := by decide
        have hnm : ((⟨#[]⟩ : ByteArray).toList == []) = true := by kernel_rfl
        go_enter Try.func18, Try.ntmps18
        go_wp2_with fail
        refine HR.out.mono ?_
        rintro e w1 ⟨rb, A1, c1, rfl, hrb, hR, hk1⟩
        have HK := hid hk1
        have HRd := hid hR
        clear hk1 hR
        go_wp2_with fail
        refine (rd_int HRd.out HOK.out.call).mono ?_
        rintro e w2 ⟨A2, n2, c2, rfl, hR2, hk2⟩
        have HRd1 := hid hR2
        have HK1 := hid (HK.out.trans hk2 (fun i hi e => by omega))
        clear hR2 hk2
        go_wp2_with fail
        refine (rd_int HRd1.out HOK.out.st).mono ?_
        rintro e w3 ⟨A3, n3, c3, rfl, hR3, hk3⟩
        have HRd2 := hid hR3
        have HK2 := hid (HK1.out.trans hk3 (fun i hi e => by omega))
        clear hR3 hk3
        go_wp2_with fail
        refine (rd_int HRd2.out HOK.out.since).mono ?_
        rintro e w4 ⟨A4, n4, c4, rfl, hR4, hk4⟩
        have HRd3 := hid hR4
        have HK3 := hid (HK2.out.trans hk4 (fun i hi e => by omega))
        clear hR4 hk4
        go_wp2_with fail
        refine (rd_int HRd3.out HOK.out.cen).mono ?_
        rintro e w5 ⟨A5, n5, c5, rfl, hR5, hk5⟩
        have HRd4 := hid hR5
        have HK4 := hid (HK3.out.trans hk5 (fun i hi e => by omega))
        clear hR5 hk5
        go_wp2_with fail
        refine (rd_int HRd4.out HOK.out.ep).mono ?_
        rintro e w6 ⟨A6, n6, c6, rfl, hR6, hk6⟩
        have HRd5 := hid hR6
        have HK5 := hid (HK4.out.trans hk6 (fun i hi e => by omega))
        clear hR6 hk6
        go_wp2_with fail
        refine (rd_str HRd5.out HOK.out.name (by have := HLN.out; simp only [List.length_append, List.length_nil]; omega)).mono ?_
        rintro e w7 ⟨A7, n7, c7, rfl, hR7, hk7⟩
        have HRd6 := hid hR7
        have HK6 := hid (HK5.out.trans hk7 (fun i hi e => by omega))
        clear hR7 hk7
        go_wp2_with fail
        refine (rd_int HRd6.out HOK.out.ver).mono ?_
        rintro e w8 ⟨A8, n8, c8, rfl, hR8, hk8⟩
        have HRd7 := hid hR8
        have HK7 := hid (HK6.out.trans hk8 (fun i hi e => by omega))
        clear hR8 hk8
        go_wp2_with fail
        refine (rd_ints HRd7.out hal HOK.out.el).mono ?_
        rintro e w9 ⟨A9, n9, c9, B, rfl, hR9, hk9, hB9⟩
        have HRd8 := hid hR9
        have HK8 := hid (HK7.out.trans hk9 (fun i hi e => by omega))
        have HB9 := hid hB9
        clear hR9 hk9 hB9
        have HFI := hid (finish_any w9 rb _ A9 n9 c9 _ HRd8.out (by simp))
        have hSB : Sl w9 (fun _ => False) 1 B ([] : List Int).length (icells ([] : List Int)) := by
          have hl := HIC.out
          refine ⟨by rw [hl]; omega, fun hp => ?_⟩
          obtain ⟨g, rfl, hg, hb⟩ := HB9.out (by rw [hl]; exact hp)
          exact ⟨g, 0, rfl, hb.lt, fun f => f, fun j u hu => by
            rw [Nat.zero_add, hb.at_ j]
            simpa using hu⟩
        have HSB := hid hSB
        rw [HIC.out]
        clear hSB
        go_wp2_with (first
          | (go_at_call 43; refine HFI.out.mono ?_; rintro e w10 ⟨rfl, rfl⟩
             rw [show endE ⟨[], 0⟩ = 0 by decide])
          | (go_at_call 22; refine (hCl.out _ _).mono ?_; rintro e w10 ⟨rfl, rfl⟩; rw [hcl])
          | (go_at_call 23; refine (hT.out _ _).mono ?_; rintro e w10 ⟨rfl, rfl⟩; rw [htk])
          | (go_at_call 44; refine (hC.out _ _).mono ?_; rintro e w10 ⟨rfl, rfl⟩; rw [hce])
          | (go_at_call 36; refine (hV.out _ _).mono ?_; rintro e w10 ⟨rfl, rfl⟩; rw [hep])
          | (go_at_call 37; refine (hP.out _ _ _).mono ?_; rintro e w10 ⟨rfl, rfl⟩; rw [hpr]))
        go_loopw [115] (fun i wi => ∃ j : Nat, j ≤ ([] : List Int).length ∧ i = .int .i64 j ∧ wi = w9) (fun i _ => ([] : List Int).length - (RowKit.intOf i).toNat)
        case atStart => exact ⟨0, by omega, rfl, rfl⟩
        case round =>
          obtain ⟨j, hj, rfl, rfl⟩ := hrel
          by_cases hjl : j < ([] : List Int).length
          · exact absurd hjl (by simp)
          · have HSR := hid (HSB.out.src (Keep.refl (fun _ => False) wr))
            go_wp2_with (
              at_builtin
              refine EIn.law2 (.const (.slice none 0 0)) (.tmp 133) (.slice none 0 0) B ([] : List Int).length ([] : List Int).length rfl rfl rfl rfl wr.heap.size 0 [] (icells ([] : List Int)) ([] : List Int).length _ (Nat.zero_add _) rfl (Own.nil _ _ _ _) (by rw [HIC.out]; omega) HSR.out (icells_one _) (by omega) (by unfold maxLen; omega) (Nat.le_refl _) ?_
              intro A' c' w2 ho hg hw
              have HO := hid ho
              have HKc := hid ((Keep.refl (fun _ => False) wr).app (Own.nil wr wr.heap.size 3 1) hg (fun g h1 h2 => by omega))
              clear ho hg hw)
            go_ret2
            have hz := HK8.out.size
            have hzc := HKc.out.size
            have hbl := HO.out.block
            have hblt := HO.out.lt
            refine ⟨_, rfl, A'.map (·.block), A', c', ⟨Blk.made w2 54 _, Own.rebase (World.ownsRow.alloc HO.out _) (fun g _ => Nat.zero_le g), rfl, fun g e => ?_⟩, (HK8.out.then HKc.out).alloc _, by omega, fun g e => ?_⟩
            · have := hblt g (by rw [← e]; cases A' <;> rfl)
              omega
            · have := hbl g (by rw [← e]; cases A' <;> rfl)
              omega
  · have g1 : (st == (1 : Int)) = false := by simpa using h1
    by_cases h3 : st = 3
    · subst h3
      have htk : vN since 0 = true := vN_iff.2 (v3 (.inr rfl))
      rcases v5 with vo | vo
      · have hce : vC cen = true := vC_iff.2 vo.1
        have hep : vN ep 1 = true := vN_iff.2 vo.2
        have hcm : (cen == (-1 : Int)) = false := by simp; omega
        rcases v6 with vp | vp
        · have hpr : vP name.size ver = true := vP_iff.2 vp
          have hnm : (name.toList == []) = false := by
            by_cases hq : (name.toList == []) = true
            · have hq2 : name.toList = [] := by simpa using hq
              rw [ByteArray.toList_eq] at hq2
              have hq3 : name.data.toList.length = name.size := Array.length_toList
              rw [hq2] at hq3
              simp at hq3
              omega
            · simpa using hq
          go_enter Try.func18, Try.ntmps18
          go_wp2_with fail
          refine HR.out.mono ?_
          rintro e w1 ⟨rb, A1, c1, rfl, hrb, hR, hk1⟩
          have HK := hid hk1
          have HRd := hid hR
          clear hk1 hR
          go_wp2_with fail
          refine (rd_int HRd.out HOK.out.call).mono ?_
          rintro e w2 ⟨A2, n2, c2, rfl, hR2, hk2⟩
          have HRd1 := hid hR2
          have HK1 := hid (HK.out.trans hk2 (fun i hi e => by omega))
          clear hR2 hk2
          go_wp2_with fail
          refine (rd_int HRd1.out HOK.out.st).mono ?_
          rintro e w3 ⟨A3, n3, c3, rfl, hR3, hk3⟩
          have HRd2 := hid hR3
          have HK2 := hid (HK1.out.trans hk3 (fun i hi e => by omega))
          clear hR3 hk3
          go_wp2_with fail
          refine (rd_int HRd2.out HOK.out.since).mono ?_
          rintro e w4 ⟨A4, n4, c4, rfl, hR4, hk4⟩
          have HRd3 := hid hR4
          have HK3 := hid (HK2.out.trans hk4 (fun i hi e => by omega))
          clear hR4 hk4
          go_wp2_with fail
          refine (rd_int HRd3.out HOK.out.cen).mono ?_
          rintro e w5 ⟨A5, n5, c5, rfl, hR5, hk5⟩
          have HRd4 := hid hR5
          have HK4 := hid (HK3.out.trans hk5 (fun i hi e => by omega))
          clear hR5 hk5
          go_wp2_with fail
          refine (rd_int HRd4.out HOK.out.ep).mono ?_
          rintro e w6 ⟨A6, n6, c6, rfl, hR6, hk6⟩
          have HRd5 := hid hR6
          have HK5 := hid (HK4.out.trans hk6 (fun i hi e => by omega))
          clear hR6 hk6
          go_wp2_with fail
          refine (rd_str HRd5.out HOK.out.name (by have := HLN.out; simp only [List.length_append, List.length_nil]; omega)).mono ?_
          rintro e w7 ⟨A7, n7, c7, rfl, hR7, hk7⟩
          have HRd6 := hid hR7
          have HK6 := hid (HK5.out.trans hk7 (fun i hi e => by omega))
          clear hR7 hk7
          go_wp2_with fail
          refine (rd_int HRd6.out HOK.out.ver).mono ?_
          rintro e w8 ⟨A8, n8, c8, rfl, hR8, hk8⟩
          have HRd7 := hid hR8
          have HK7 := hid (HK6.out.trans hk8 (fun i hi e => by omega))
          clear hR8 hk8
          go_wp2_with fail
          refine (rd_ints HRd7.out hal HOK.out.el).mono ?_
          rintro e w9 ⟨A9, n9, c9, B, rfl, hR9, hk9, hB9⟩
          have HRd8 := hid hR9
          have HK8 := hid (HK7.out.trans hk9 (fun i hi e => by omega))
          have HB9 := hid hB9
          clear hR9 hk9 hB9
          have HFI := hid (finish_any w9 rb _ A9 n9 c9 _ HRd8.out (by simp))
          have hSB : Sl w9 (fun _ => False) 1 B ans.length (icells ans) := by
            have hl := HIC.out
            refine ⟨by rw [hl]; omega, fun hp => ?_⟩
            obtain ⟨g, rfl, hg, hb⟩ := HB9.out (by rw [hl]; exact hp)
            exact ⟨g, 0, rfl, hb.lt, fun f => f, fun j u hu => by
              rw [Nat.zero_add, hb.at_ j]
              simpa using hu⟩
          have HSB := hid hSB
          rw [HIC.out]
          clear hSB
          go_wp2_with (first
            | (go_at_call 43; refine HFI.out.mono ?_; rintro e w10 ⟨rfl, rfl⟩
               rw [show endE ⟨[], 0⟩ = 0 by decide])
            | (go_at_call 22; refine (hCl.out _ _).mono ?_; rintro e w10 ⟨rfl, rfl⟩; rw [hcl])
            | (go_at_call 23; refine (hT.out _ _).mono ?_; rintro e w10 ⟨rfl, rfl⟩; rw [htk])
            | (go_at_call 44; refine (hC.out _ _).mono ?_; rintro e w10 ⟨rfl, rfl⟩; rw [hce])
            | (go_at_call 36; refine (hV.out _ _).mono ?_; rintro e w10 ⟨rfl, rfl⟩; rw [hep])
            | (go_at_call 37; refine (hP.out _ _ _).mono ?_; rintro e w10 ⟨rfl, rfl⟩; rw [hpr]))
          go_loopw [115] (fun i wi => ∃ j : Nat, j ≤ ans.length ∧ i = .int .i64 j ∧ wi = w9) (fun i _ => ans.length - (RowKit.intOf i).toNat)
          case atStart => exact ⟨0, by omega, rfl, rfl⟩
          case round =>
            obtain ⟨j, hj, rfl, rfl⟩ := hrel
            by_cases hjl : j < ans.length
            · obtain ⟨v, hvv⟩ := get_some (l := ans) (k := j) hjl
              obtain ⟨b1, o1, rfl, _, _, hr1⟩ := HSB.out.at_ (by omega)
              have y1 := hr1 j (.int .i64 v) (by simp [icells, hvv])
              have hb15 := HEL.out v (List.mem_of_getElem? hvv)
              obtain ⟨hb0, hb1⟩ := hb15
              have hb0' : ¬ v < 0 := by omega
              have hb1' : ¬ 15 < v := by omega
              have hj1 : (j : Int) < (ans.length : Int) := by omega
              have hj3 : (j : Int) + 1 ≤ 9223372036854775807 := by omega
              have hj0 : (0 : Int) ≤ (j : Int) := by omega
              clear hr1 hvv
              go_wp2_with fail
              go_roundw
              case rel => exact ⟨j + 1, by omega, by go_num, trivial⟩
              case measure => simp [RowKit.intOf]; omega
            · have HSR := hid (HSB.out.src (Keep.refl (fun _ => False) wr))
              go_wp2_with (
                at_builtin
                refine EIn.law2 (.const (.slice none 0 0)) (.tmp 133) (.slice none 0 0) B ans.length ans.length rfl rfl rfl rfl wr.heap.size 0 [] (icells ans) ans.length _ (Nat.zero_add _) rfl (Own.nil _ _ _ _) (by rw [HIC.out]; omega) HSR.out (icells_one _) (by omega) (by unfold maxLen; omega) (Nat.le_refl _) ?_
                intro A' c' w2 ho hg hw
                have HO := hid ho
                have HKc := hid ((Keep.refl (fun _ => False) wr).app (Own.nil wr wr.heap.size 3 1) hg (fun g h1 h2 => by omega))
                clear ho hg hw)
              go_ret2
              have hz := HK8.out.size
              have hzc := HKc.out.size
              have hbl := HO.out.block
              have hblt := HO.out.lt
              refine ⟨_, rfl, A'.map (·.block), A', c', ⟨Blk.made w2 54 _, Own.rebase (World.ownsRow.alloc HO.out _) (fun g _ => Nat.zero_le g), rfl, fun g e => ?_⟩, (HK8.out.then HKc.out).alloc _, by omega, fun g e => ?_⟩
              · have := hblt g (by rw [← e]; cases A' <;> rfl)
                omega
              · have := hbl g (by rw [← e]; cases A' <;> rfl)
                omega
        · obtain ⟨vn, vv, va⟩ := vp
          subst vn vv va
          have hpr : vP (ByteArray.size ⟨#[]⟩) 0 = false := by decide
          have hnm : ((⟨#[]⟩ : ByteArray).toList == []) = true := by kernel_rfl
          go_enter Try.func18, Try.ntmps18
          go_wp2_with fail
          refine HR.out.mono ?_
          rintro e w1 ⟨rb, A1, c1, rfl, hrb, hR, hk1⟩
          have HK := hid hk1
          have HRd := hid hR
          clear hk1 hR
          go_wp2_with fail
          refine (rd_int HRd.out HOK.out.call).mono ?_
          rintro e w2 ⟨A2, n2, c2, rfl, hR2, hk2⟩
          have HRd1 := hid hR2
          have HK1 := hid (HK.out.trans hk2 (fun i hi e => by omega))
          clear hR2 hk2
          go_wp2_with fail
          refine (rd_int HRd1.out HOK.out.st).mono ?_
          rintro e w3 ⟨A3, n3, c3, rfl, hR3, hk3⟩
          have HRd2 := hid hR3
          have HK2 := hid (HK1.out.trans hk3 (fun i hi e => by omega))
          clear hR3 hk3
          go_wp2_with fail
          refine (rd_int HRd2.out HOK.out.since).mono ?_
          rintro e w4 ⟨A4, n4, c4, rfl, hR4, hk4⟩
          have HRd3 := hid hR4
          have HK3 := hid (HK2.out.trans hk4 (fun i hi e => by omega))
          clear hR4 hk4
          go_wp2_with fail
          refine (rd_int HRd3.out HOK.out.cen).mono ?_
          rintro e w5 ⟨A5, n5, c5, rfl, hR5, hk5⟩
          have HRd4 := hid hR5
          have HK4 := hid (HK3.out.trans hk5 (fun i hi e => by omega))
          clear hR5 hk5
          go_wp2_with fail
          refine (rd_int HRd4.out HOK.out.ep).mono ?_
          rintro e w6 ⟨A6, n6, c6, rfl, hR6, hk6⟩
          have HRd5 := hid hR6
          have HK5 := hid (HK4.out.trans hk6 (fun i hi e => by omega))
          clear hR6 hk6
          go_wp2_with fail
          refine (rd_str HRd5.out HOK.out.name (by have := HLN.out; simp only [List.length_append, List.length_nil]; omega)).mono ?_
          rintro e w7 ⟨A7, n7, c7, rfl, hR7, hk7⟩
          have HRd6 := hid hR7
          have HK6 := hid (HK5.out.trans hk7 (fun i hi e => by omega))
          clear hR7 hk7
          go_wp2_with fail
          refine (rd_int HRd6.out HOK.out.ver).mono ?_
          rintro e w8 ⟨A8, n8, c8, rfl, hR8, hk8⟩
          have HRd7 := hid hR8
          have HK7 := hid (HK6.out.trans hk8 (fun i hi e => by omega))
          clear hR8 hk8
          go_wp2_with fail
          refine (rd_ints HRd7.out hal HOK.out.el).mono ?_
          rintro e w9 ⟨A9, n9, c9, B, rfl, hR9, hk9, hB9⟩
          have HRd8 := hid hR9
          have HK8 := hid (HK7.out.trans hk9 (fun i hi e => by omega))
          have HB9 := hid hB9
          clear hR9 hk9 hB9
          have HFI := hid (finish_any w9 rb _ A9 n9 c9 _ HRd8.out (by simp))
          have hSB : Sl w9 (fun _ => False) 1 B ([] : List Int).length (icells ([] : List Int)) := by
            have hl := HIC.out
            refine ⟨by rw [hl]; omega, fun hp => ?_⟩
            obtain ⟨g, rfl, hg, hb⟩ := HB9.out (by rw [hl]; exact hp)
            exact ⟨g, 0, rfl, hb.lt, fun f => f, fun j u hu => by
              rw [Nat.zero_add, hb.at_ j]
              simpa using hu⟩
          have HSB := hid hSB
          rw [HIC.out]
          clear hSB
          go_wp2_with (first
            | (go_at_call 43; refine HFI.out.mono ?_; rintro e w10 ⟨rfl, rfl⟩
               rw [show endE ⟨[], 0⟩ = 0 by decide])
            | (go_at_call 22; refine (hCl.out _ _).mono ?_; rintro e w10 ⟨rfl, rfl⟩; rw [hcl])
            | (go_at_call 23; refine (hT.out _ _).mono ?_; rintro e w10 ⟨rfl, rfl⟩; rw [htk])
            | (go_at_call 44; refine (hC.out _ _).mono ?_; rintro e w10 ⟨rfl, rfl⟩; rw [hce])
            | (go_at_call 36; refine (hV.out _ _).mono ?_; rintro e w10 ⟨rfl, rfl⟩; rw [hep])
            | (go_at_call 37; refine (hP.out _ _ _).mono ?_; rintro e w10 ⟨rfl, rfl⟩; rw [hpr]))
          go_loopw [115] (fun i wi => ∃ j : Nat, j ≤ ([] : List Int).length ∧ i = .int .i64 j ∧ wi = w9) (fun i _ => ([] : List Int).length - (RowKit.intOf i).toNat)
          case atStart => exact ⟨0, by omega, rfl, rfl⟩
          case round =>
            obtain ⟨j, hj, rfl, rfl⟩ := hrel
            by_cases hjl : j < ([] : List Int).length
            · exact absurd hjl (by simp)
            · have HSR := hid (HSB.out.src (Keep.refl (fun _ => False) wr))
              go_wp2_with (
                at_builtin
                refine EIn.law2 (.const (.slice none 0 0)) (.tmp 133) (.slice none 0 0) B ([] : List Int).length ([] : List Int).length rfl rfl rfl rfl wr.heap.size 0 [] (icells ([] : List Int)) ([] : List Int).length _ (Nat.zero_add _) rfl (Own.nil _ _ _ _) (by rw [HIC.out]; omega) HSR.out (icells_one _) (by omega) (by unfold maxLen; omega) (Nat.le_refl _) ?_
                intro A' c' w2 ho hg hw
                have HO := hid ho
                have HKc := hid ((Keep.refl (fun _ => False) wr).app (Own.nil wr wr.heap.size 3 1) hg (fun g h1 h2 => by omega))
                clear ho hg hw)
              go_ret2
              have hz := HK8.out.size
              have hzc := HKc.out.size
              have hbl := HO.out.block
              have hblt := HO.out.lt
              refine ⟨_, rfl, A'.map (·.block), A', c', ⟨Blk.made w2 54 _, Own.rebase (World.ownsRow.alloc HO.out _) (fun g _ => Nat.zero_le g), rfl, fun g e => ?_⟩, (HK8.out.then HKc.out).alloc _, by omega, fun g e => ?_⟩
              · have := hblt g (by rw [← e]; cases A' <;> rfl)
                omega
              · have := hbl g (by rw [← e]; cases A' <;> rfl)
                omega
      · obtain ⟨vo1, vo2, vo3⟩ := vo
        subst vo1 vo2
        have hce : vC (-1) = false := by decide
        have hep : vN 0 1 = false := by decide
        rcases v6 with vp | vp
        · have hpr : vP name.size ver = true := vP_iff.2 vp
          have hnm : (name.toList == []) = false := by
            by_cases hq : (name.toList == []) = true
            · have hq2 : name.toList = [] := by simpa using hq
              rw [ByteArray.toList_eq] at hq2
              have hq3 : name.data.toList.length = name.size := Array.length_toList
              rw [hq2] at hq3
              simp at hq3
              omega
            · simpa using hq
          go_enter Try.func18, Try.ntmps18
          go_wp2_with fail
          refine HR.out.mono ?_
          rintro e w1 ⟨rb, A1, c1, rfl, hrb, hR, hk1⟩
          have HK := hid hk1
          have HRd := hid hR
          clear hk1 hR
          go_wp2_with fail
          refine (rd_int HRd.out HOK.out.call).mono ?_
          rintro e w2 ⟨A2, n2, c2, rfl, hR2, hk2⟩
          have HRd1 := hid hR2
          have HK1 := hid (HK.out.trans hk2 (fun i hi e => by omega))
          clear hR2 hk2
          go_wp2_with fail
          refine (rd_int HRd1.out HOK.out.st).mono ?_
          rintro e w3 ⟨A3, n3, c3, rfl, hR3, hk3⟩
          have HRd2 := hid hR3
          have HK2 := hid (HK1.out.trans hk3 (fun i hi e => by omega))
          clear hR3 hk3
          go_wp2_with fail
          refine (rd_int HRd2.out HOK.out.since).mono ?_
          rintro e w4 ⟨A4, n4, c4, rfl, hR4, hk4⟩
          have HRd3 := hid hR4
          have HK3 := hid (HK2.out.trans hk4 (fun i hi e => by omega))
          clear hR4 hk4
          go_wp2_with fail
          refine (rd_int HRd3.out HOK.out.cen).mono ?_
          rintro e w5 ⟨A5, n5, c5, rfl, hR5, hk5⟩
          have HRd4 := hid hR5
          have HK4 := hid (HK3.out.trans hk5 (fun i hi e => by omega))
          clear hR5 hk5
          go_wp2_with fail
          refine (rd_int HRd4.out HOK.out.ep).mono ?_
          rintro e w6 ⟨A6, n6, c6, rfl, hR6, hk6⟩
          have HRd5 := hid hR6
          have HK5 := hid (HK4.out.trans hk6 (fun i hi e => by omega))
          clear hR6 hk6
          go_wp2_with fail
          refine (rd_str HRd5.out HOK.out.name (by have := HLN.out; simp only [List.length_append, List.length_nil]; omega)).mono ?_
          rintro e w7 ⟨A7, n7, c7, rfl, hR7, hk7⟩
          have HRd6 := hid hR7
          have HK6 := hid (HK5.out.trans hk7 (fun i hi e => by omega))
          clear hR7 hk7
          go_wp2_with fail
          refine (rd_int HRd6.out HOK.out.ver).mono ?_
          rintro e w8 ⟨A8, n8, c8, rfl, hR8, hk8⟩
          have HRd7 := hid hR8
          have HK7 := hid (HK6.out.trans hk8 (fun i hi e => by omega))
          clear hR8 hk8
          go_wp2_with fail
          refine (rd_ints HRd7.out hal HOK.out.el).mono ?_
          rintro e w9 ⟨A9, n9, c9, B, rfl, hR9, hk9, hB9⟩
          have HRd8 := hid hR9
          have HK8 := hid (HK7.out.trans hk9 (fun i hi e => by omega))
          have HB9 := hid hB9
          clear hR9 hk9 hB9
          have HFI := hid (finish_any w9 rb _ A9 n9 c9 _ HRd8.out (by simp))
          have hSB : Sl w9 (fun _ => False) 1 B ans.length (icells ans) := by
            have hl := HIC.out
            refine ⟨by rw [hl]; omega, fun hp => ?_⟩
            obtain ⟨g, rfl, hg, hb⟩ := HB9.out (by rw [hl]; exact hp)
            exact ⟨g, 0, rfl, hb.lt, fun f => f, fun j u hu => by
              rw [Nat.zero_add, hb.at_ j]
              simpa using hu⟩
          have HSB := hid hSB
          rw [HIC.out]
          clear hSB
          go_wp2_with (first
            | (go_at_call 43; refine HFI.out.mono ?_; rintro e w10 ⟨rfl, rfl⟩
               rw [show endE ⟨[], 0⟩ = 0 by decide])
            | (go_at_call 22; refine (hCl.out _ _).mono ?_; rintro e w10 ⟨rfl, rfl⟩; rw [hcl])
            | (go_at_call 23; refine (hT.out _ _).mono ?_; rintro e w10 ⟨rfl, rfl⟩; rw [htk])
            | (go_at_call 44; refine (hC.out _ _).mono ?_; rintro e w10 ⟨rfl, rfl⟩; rw [hce])
            | (go_at_call 36; refine (hV.out _ _).mono ?_; rintro e w10 ⟨rfl, rfl⟩; rw [hep])
            | (go_at_call 37; refine (hP.out _ _ _).mono ?_; rintro e w10 ⟨rfl, rfl⟩; rw [hpr]))
          go_loopw [115] (fun i wi => ∃ j : Nat, j ≤ ans.length ∧ i = .int .i64 j ∧ wi = w9) (fun i _ => ans.length - (RowKit.intOf i).toNat)
          case atStart => exact ⟨0, by omega, rfl, rfl⟩
          case round =>
            obtain ⟨j, hj, rfl, rfl⟩ := hrel
            by_cases hjl : j < ans.length
            · obtain ⟨v, hvv⟩ := get_some (l := ans) (k := j) hjl
              obtain ⟨b1, o1, rfl, _, _, hr1⟩ := HSB.out.at_ (by omega)
              have y1 := hr1 j (.int .i64 v) (by simp [icells, hvv])
              have hb15 := HEL.out v (List.mem_of_getElem? hvv)
              obtain ⟨hb0, hb1⟩ := hb15
              have hb0' : ¬ v < 0 := by omega
              have hb1' : ¬ 15 < v := by omega
              have hj1 : (j : Int) < (ans.length : Int) := by omega
              have hj3 : (j : Int) + 1 ≤ 9223372036854775807 := by omega
              have hj0 : (0 : Int) ≤ (j : Int) := by omega
              clear hr1 hvv
              go_wp2_with fail
              go_roundw
              case rel => exact ⟨j + 1, by omega, by go_num, trivial⟩
              case measure => simp [RowKit.intOf]; omega
            · have HSR := hid (HSB.out.src (Keep.refl (fun _ => False) wr))
              go_wp2_with (
                at_builtin
                refine EIn.law2 (.const (.slice none 0 0)) (.tmp 133) (.slice none 0 0) B ans.length ans.length rfl rfl rfl rfl wr.heap.size 0 [] (icells ans) ans.length _ (Nat.zero_add _) rfl (Own.nil _ _ _ _) (by rw [HIC.out]; omega) HSR.out (icells_one _) (by omega) (by unfold maxLen; omega) (Nat.le_refl _) ?_
                intro A' c' w2 ho hg hw
                have HO := hid ho
                have HKc := hid ((Keep.refl (fun _ => False) wr).app (Own.nil wr wr.heap.size 3 1) hg (fun g h1 h2 => by omega))
                clear ho hg hw)
              go_ret2
              have hz := HK8.out.size
              have hzc := HKc.out.size
              have hbl := HO.out.block
              have hblt := HO.out.lt
              refine ⟨_, rfl, A'.map (·.block), A', c', ⟨Blk.made w2 54 _, Own.rebase (World.ownsRow.alloc HO.out _) (fun g _ => Nat.zero_le g), rfl, fun g e => ?_⟩, (HK8.out.then HKc.out).alloc _, by omega, fun g e => ?_⟩
              · have := hblt g (by rw [← e]; cases A' <;> rfl)
                omega
              · have := hbl g (by rw [← e]; cases A' <;> rfl)
                omega
        · obtain ⟨vn, vv, va⟩ := vp
          subst vn vv va
          have hpr : vP (ByteArray.size ⟨#[]⟩) 0 = false := by decide
          have hnm : ((⟨#[]⟩ : ByteArray).toList == []) = true := by kernel_rfl
          go_enter Try.func18, Try.ntmps18
          go_wp2_with fail
          refine HR.out.mono ?_
          rintro e w1 ⟨rb, A1, c1, rfl, hrb, hR, hk1⟩
          have HK := hid hk1
          have HRd := hid hR
          clear hk1 hR
          go_wp2_with fail
          refine (rd_int HRd.out HOK.out.call).mono ?_
          rintro e w2 ⟨A2, n2, c2, rfl, hR2, hk2⟩
          have HRd1 := hid hR2
          have HK1 := hid (HK.out.trans hk2 (fun i hi e => by omega))
          clear hR2 hk2
          go_wp2_with fail
          refine (rd_int HRd1.out HOK.out.st).mono ?_
          rintro e w3 ⟨A3, n3, c3, rfl, hR3, hk3⟩
          have HRd2 := hid hR3
          have HK2 := hid (HK1.out.trans hk3 (fun i hi e => by omega))
          clear hR3 hk3
          go_wp2_with fail
          refine (rd_int HRd2.out HOK.out.since).mono ?_
          rintro e w4 ⟨A4, n4, c4, rfl, hR4, hk4⟩
          have HRd3 := hid hR4
          have HK3 := hid (HK2.out.trans hk4 (fun i hi e => by omega))
          clear hR4 hk4
          go_wp2_with fail
          refine (rd_int HRd3.out HOK.out.cen).mono ?_
          rintro e w5 ⟨A5, n5, c5, rfl, hR5, hk5⟩
          have HRd4 := hid hR5
          have HK4 := hid (HK3.out.trans hk5 (fun i hi e => by omega))
          clear hR5 hk5
          go_wp2_with fail
          refine (rd_int HRd4.out HOK.out.ep).mono ?_
          rintro e w6 ⟨A6, n6, c6, rfl, hR6, hk6⟩
          have HRd5 := hid hR6
          have HK5 := hid (HK4.out.trans hk6 (fun i hi e => by omega))
          clear hR6 hk6
          go_wp2_with fail
          refine (rd_str HRd5.out HOK.out.name (by have := HLN.out; simp only [List.length_append, List.length_nil]; omega)).mono ?_
          rintro e w7 ⟨A7, n7, c7, rfl, hR7, hk7⟩
          have HRd6 := hid hR7
          have HK6 := hid (HK5.out.trans hk7 (fun i hi e => by omega))
          clear hR7 hk7
          go_wp2_with fail
          refine (rd_int HRd6.out HOK.out.ver).mono ?_
          rintro e w8 ⟨A8, n8, c8, rfl, hR8, hk8⟩
          have HRd7 := hid hR8
          have HK7 := hid (HK6.out.trans hk8 (fun i hi e => by omega))
          clear hR8 hk8
          go_wp2_with fail
          refine (rd_ints HRd7.out hal HOK.out.el).mono ?_
          rintro e w9 ⟨A9, n9, c9, B, rfl, hR9, hk9, hB9⟩
          have HRd8 := hid hR9
          have HK8 := hid (HK7.out.trans hk9 (fun i hi e => by omega))
          have HB9 := hid hB9
          clear hR9 hk9 hB9
          have HFI := hid (finish_any w9 rb _ A9 n9 c9 _ HRd8.out (by simp))
          have hSB : Sl w9 (fun _ => False) 1 B ([] : List Int).length (icells ([] : List Int)) := by
            have hl := HIC.out
            refine ⟨by rw [hl]; omega, fun hp => ?_⟩
            obtain ⟨g, rfl, hg, hb⟩ := HB9.out (by rw [hl]; exact hp)
            exact ⟨g, 0, rfl, hb.lt, fun f => f, fun j u hu => by
              rw [Nat.zero_add, hb.at_ j]
              simpa using hu⟩
          have HSB := hid hSB
          rw [HIC.out]
          clear hSB
          go_wp2_with (first
            | (go_at_call 43; refine HFI.out.mono ?_; rintro e w10 ⟨rfl, rfl⟩
               rw [show endE ⟨[], 0⟩ = 0 by decide])
            | (go_at_call 22; refine (hCl.out _ _).mono ?_; rintro e w10 ⟨rfl, rfl⟩; rw [hcl])
            | (go_at_call 23; refine (hT.out _ _).mono ?_; rintro e w10 ⟨rfl, rfl⟩; rw [htk])
            | (go_at_call 44; refine (hC.out _ _).mono ?_; rintro e w10 ⟨rfl, rfl⟩; rw [hce])
            | (go_at_call 36; refine (hV.out _ _).mono ?_; rintro e w10 ⟨rfl, rfl⟩; rw [hep])
            | (go_at_call 37; refine (hP.out _ _ _).mono ?_; rintro e w10 ⟨rfl, rfl⟩; rw [hpr]))
          go_loopw [115] (fun i wi => ∃ j : Nat, j ≤ ([] : List Int).length ∧ i = .int .i64 j ∧ wi = w9) (fun i _ => ([] : List Int).length - (RowKit.intOf i).toNat)
          case atStart => exact ⟨0, by omega, rfl, rfl⟩
          case round =>
            obtain ⟨j, hj, rfl, rfl⟩ := hrel
            by_cases hjl : j < ([] : List Int).length
            · exact absurd hjl (by simp)
            · have HSR := hid (HSB.out.src (Keep.refl (fun _ => False) wr))
              go_wp2_with (
                at_builtin
                refine EIn.law2 (.const (.slice none 0 0)) (.tmp 133) (.slice none 0 0) B ([] : List Int).length ([] : List Int).length rfl rfl rfl rfl wr.heap.size 0 [] (icells ([] : List Int)) ([] : List Int).length _ (Nat.zero_add _) rfl (Own.nil _ _ _ _) (by rw [HIC.out]; omega) HSR.out (icells_one _) (by omega) (by unfold maxLen; omega) (Nat.le_refl _) ?_
                intro A' c' w2 ho hg hw
                have HO := hid ho
                have HKc := hid ((Keep.refl (fun _ => False) wr).app (Own.nil wr wr.heap.size 3 1) hg (fun g h1 h2 => by omega))
                clear ho hg hw)
              go_ret2
              have hz := HK8.out.size
              have hzc := HKc.out.size
              have hbl := HO.out.block
              have hblt := HO.out.lt
              refine ⟨_, rfl, A'.map (·.block), A', c', ⟨Blk.made w2 54 _, Own.rebase (World.ownsRow.alloc HO.out _) (fun g _ => Nat.zero_le g), rfl, fun g e => ?_⟩, (HK8.out.then HKc.out).alloc _, by omega, fun g e => ?_⟩
              · have := hblt g (by rw [← e]; cases A' <;> rfl)
                omega
              · have := hbl g (by rw [← e]; cases A' <;> rfl)
                omega
    · have g3 : (st == (3 : Int)) = false := by simpa using h3
      have hsj : since = -1 := v4 (by omega)
      subst hsj
      rcases v5 with vo | vo
      · have hce : vC cen = true := vC_iff.2 vo.1
        have hep : vN ep 1 = true := vN_iff.2 vo.2
        have hcm : (cen == (-1 : Int)) = false := by simp; omega
        rcases v6 with vp | vp
        · have hpr : vP name.size ver = true := vP_iff.2 vp
          have hnm : (name.toList == []) = false := by
            by_cases hq : (name.toList == []) = true
            · have hq2 : name.toList = [] := by simpa using hq
              rw [ByteArray.toList_eq] at hq2
              have hq3 : name.data.toList.length = name.size := Array.length_toList
              rw [hq2] at hq3
              simp at hq3
              omega
            · simpa using hq
          go_enter Try.func18, Try.ntmps18
          go_wp2_with fail
          refine HR.out.mono ?_
          rintro e w1 ⟨rb, A1, c1, rfl, hrb, hR, hk1⟩
          have HK := hid hk1
          have HRd := hid hR
          clear hk1 hR
          go_wp2_with fail
          refine (rd_int HRd.out HOK.out.call).mono ?_
          rintro e w2 ⟨A2, n2, c2, rfl, hR2, hk2⟩
          have HRd1 := hid hR2
          have HK1 := hid (HK.out.trans hk2 (fun i hi e => by omega))
          clear hR2 hk2
          go_wp2_with fail
          refine (rd_int HRd1.out HOK.out.st).mono ?_
          rintro e w3 ⟨A3, n3, c3, rfl, hR3, hk3⟩
          have HRd2 := hid hR3
          have HK2 := hid (HK1.out.trans hk3 (fun i hi e => by omega))
          clear hR3 hk3
          go_wp2_with fail
          refine (rd_int HRd2.out HOK.out.since).mono ?_
          rintro e w4 ⟨A4, n4, c4, rfl, hR4, hk4⟩
          have HRd3 := hid hR4
          have HK3 := hid (HK2.out.trans hk4 (fun i hi e => by omega))
          clear hR4 hk4
          go_wp2_with fail
          refine (rd_int HRd3.out HOK.out.cen).mono ?_
          rintro e w5 ⟨A5, n5, c5, rfl, hR5, hk5⟩
          have HRd4 := hid hR5
          have HK4 := hid (HK3.out.trans hk5 (fun i hi e => by omega))
          clear hR5 hk5
          go_wp2_with fail
          refine (rd_int HRd4.out HOK.out.ep).mono ?_
          rintro e w6 ⟨A6, n6, c6, rfl, hR6, hk6⟩
          have HRd5 := hid hR6
          have HK5 := hid (HK4.out.trans hk6 (fun i hi e => by omega))
          clear hR6 hk6
          go_wp2_with fail
          refine (rd_str HRd5.out HOK.out.name (by have := HLN.out; simp only [List.length_append, List.length_nil]; omega)).mono ?_
          rintro e w7 ⟨A7, n7, c7, rfl, hR7, hk7⟩
          have HRd6 := hid hR7
          have HK6 := hid (HK5.out.trans hk7 (fun i hi e => by omega))
          clear hR7 hk7
          go_wp2_with fail
          refine (rd_int HRd6.out HOK.out.ver).mono ?_
          rintro e w8 ⟨A8, n8, c8, rfl, hR8, hk8⟩
          have HRd7 := hid hR8
          have HK7 := hid (HK6.out.trans hk8 (fun i hi e => by omega))
          clear hR8 hk8
          go_wp2_with fail
          refine (rd_ints HRd7.out hal HOK.out.el).mono ?_
          rintro e w9 ⟨A9, n9, c9, B, rfl, hR9, hk9, hB9⟩
          have HRd8 := hid hR9
          have HK8 := hid (HK7.out.trans hk9 (fun i hi e => by omega))
          have HB9 := hid hB9
          clear hR9 hk9 hB9
          have HFI := hid (finish_any w9 rb _ A9 n9 c9 _ HRd8.out (by simp))
          have hSB : Sl w9 (fun _ => False) 1 B ans.length (icells ans) := by
            have hl := HIC.out
            refine ⟨by rw [hl]; omega, fun hp => ?_⟩
            obtain ⟨g, rfl, hg, hb⟩ := HB9.out (by rw [hl]; exact hp)
            exact ⟨g, 0, rfl, hb.lt, fun f => f, fun j u hu => by
              rw [Nat.zero_add, hb.at_ j]
              simpa using hu⟩
          have HSB := hid hSB
          rw [HIC.out]
          clear hSB
          go_wp2_with (first
            | (go_at_call 43; refine HFI.out.mono ?_; rintro e w10 ⟨rfl, rfl⟩
               rw [show endE ⟨[], 0⟩ = 0 by decide])
            | (go_at_call 22; refine (hCl.out _ _).mono ?_; rintro e w10 ⟨rfl, rfl⟩; rw [hcl])
            | (go_at_call 23; refine (hT.out _ _).mono ?_; rintro e w10 ⟨rfl, rfl⟩; rw [htk])
            | (go_at_call 44; refine (hC.out _ _).mono ?_; rintro e w10 ⟨rfl, rfl⟩; rw [hce])
            | (go_at_call 36; refine (hV.out _ _).mono ?_; rintro e w10 ⟨rfl, rfl⟩; rw [hep])
            | (go_at_call 37; refine (hP.out _ _ _).mono ?_; rintro e w10 ⟨rfl, rfl⟩; rw [hpr]))
          go_loopw [115] (fun i wi => ∃ j : Nat, j ≤ ans.length ∧ i = .int .i64 j ∧ wi = w9) (fun i _ => ans.length - (RowKit.intOf i).toNat)
          case atStart => exact ⟨0, by omega, rfl, rfl⟩
          case round =>
            obtain ⟨j, hj, rfl, rfl⟩ := hrel
            by_cases hjl : j < ans.length
            · obtain ⟨v, hvv⟩ := get_some (l := ans) (k := j) hjl
              obtain ⟨b1, o1, rfl, _, _, hr1⟩ := HSB.out.at_ (by omega)
              have y1 := hr1 j (.int .i64 v) (by simp [icells, hvv])
              have hb15 := HEL.out v (List.mem_of_getElem? hvv)
              obtain ⟨hb0, hb1⟩ := hb15
              have hb0' : ¬ v < 0 := by omega
              have hb1' : ¬ 15 < v := by omega
              have hj1 : (j : Int) < (ans.length : Int) := by omega
              have hj3 : (j : Int) + 1 ≤ 9223372036854775807 := by omega
              have hj0 : (0 : Int) ≤ (j : Int) := by omega
              clear hr1 hvv
              go_wp2_with fail
              go_roundw
              case rel => exact ⟨j + 1, by omega, by go_num, trivial⟩
              case measure => simp [RowKit.intOf]; omega
            · have HSR := hid (HSB.out.src (Keep.refl (fun _ => False) wr))
              go_wp2_with (
                at_builtin
                refine EIn.law2 (.const (.slice none 0 0)) (.tmp 133) (.slice none 0 0) B ans.length ans.length rfl rfl rfl rfl wr.heap.size 0 [] (icells ans) ans.length _ (Nat.zero_add _) rfl (Own.nil _ _ _ _) (by rw [HIC.out]; omega) HSR.out (icells_one _) (by omega) (by unfold maxLen; omega) (Nat.le_refl _) ?_
                intro A' c' w2 ho hg hw
                have HO := hid ho
                have HKc := hid ((Keep.refl (fun _ => False) wr).app (Own.nil wr wr.heap.size 3 1) hg (fun g h1 h2 => by omega))
                clear ho hg hw)
              go_ret2
              have hz := HK8.out.size
              have hzc := HKc.out.size
              have hbl := HO.out.block
              have hblt := HO.out.lt
              refine ⟨_, rfl, A'.map (·.block), A', c', ⟨Blk.made w2 54 _, Own.rebase (World.ownsRow.alloc HO.out _) (fun g _ => Nat.zero_le g), rfl, fun g e => ?_⟩, (HK8.out.then HKc.out).alloc _, by omega, fun g e => ?_⟩
              · have := hblt g (by rw [← e]; cases A' <;> rfl)
                omega
              · have := hbl g (by rw [← e]; cases A' <;> rfl)
                omega
        · obtain ⟨vn, vv, va⟩ := vp
          subst vn vv va
          have hpr : vP (ByteArray.size ⟨#[]⟩) 0 = false := by decide
          have hnm : ((⟨#[]⟩ : ByteArray).toList == []) = true := by kernel_rfl
          go_enter Try.func18, Try.ntmps18
          go_wp2_with fail
          refine HR.out.mono ?_
          rintro e w1 ⟨rb, A1, c1, rfl, hrb, hR, hk1⟩
          have HK := hid hk1
          have HRd := hid hR
          clear hk1 hR
          go_wp2_with fail
          refine (rd_int HRd.out HOK.out.call).mono ?_
          rintro e w2 ⟨A2, n2, c2, rfl, hR2, hk2⟩
          have HRd1 := hid hR2
          have HK1 := hid (HK.out.trans hk2 (fun i hi e => by omega))
          clear hR2 hk2
          go_wp2_with fail
          refine (rd_int HRd1.out HOK.out.st).mono ?_
          rintro e w3 ⟨A3, n3, c3, rfl, hR3, hk3⟩
          have HRd2 := hid hR3
          have HK2 := hid (HK1.out.trans hk3 (fun i hi e => by omega))
          clear hR3 hk3
          go_wp2_with fail
          refine (rd_int HRd2.out HOK.out.since).mono ?_
          rintro e w4 ⟨A4, n4, c4, rfl, hR4, hk4⟩
          have HRd3 := hid hR4
          have HK3 := hid (HK2.out.trans hk4 (fun i hi e => by omega))
          clear hR4 hk4
          go_wp2_with fail
          refine (rd_int HRd3.out HOK.out.cen).mono ?_
          rintro e w5 ⟨A5, n5, c5, rfl, hR5, hk5⟩
          have HRd4 := hid hR5
          have HK4 := hid (HK3.out.trans hk5 (fun i hi e => by omega))
          clear hR5 hk5
          go_wp2_with fail
          refine (rd_int HRd4.out HOK.out.ep).mono ?_
          rintro e w6 ⟨A6, n6, c6, rfl, hR6, hk6⟩
          have HRd5 := hid hR6
          have HK5 := hid (HK4.out.trans hk6 (fun i hi e => by omega))
          clear hR6 hk6
          go_wp2_with fail
          refine (rd_str HRd5.out HOK.out.name (by have := HLN.out; simp only [List.length_append, List.length_nil]; omega)).mono ?_
          rintro e w7 ⟨A7, n7, c7, rfl, hR7, hk7⟩
          have HRd6 := hid hR7
          have HK6 := hid (HK5.out.trans hk7 (fun i hi e => by omega))
          clear hR7 hk7
          go_wp2_with fail
          refine (rd_int HRd6.out HOK.out.ver).mono ?_
          rintro e w8 ⟨A8, n8, c8, rfl, hR8, hk8⟩
          have HRd7 := hid hR8
          have HK7 := hid (HK6.out.trans hk8 (fun i hi e => by omega))
          clear hR8 hk8
          go_wp2_with fail
          refine (rd_ints HRd7.out hal HOK.out.el).mono ?_
          rintro e w9 ⟨A9, n9, c9, B, rfl, hR9, hk9, hB9⟩
          have HRd8 := hid hR9
          have HK8 := hid (HK7.out.trans hk9 (fun i hi e => by omega))
          have HB9 := hid hB9
          clear hR9 hk9 hB9
          have HFI := hid (finish_any w9 rb _ A9 n9 c9 _ HRd8.out (by simp))
          have hSB : Sl w9 (fun _ => False) 1 B ([] : List Int).length (icells ([] : List Int)) := by
            have hl := HIC.out
            refine ⟨by rw [hl]; omega, fun hp => ?_⟩
            obtain ⟨g, rfl, hg, hb⟩ := HB9.out (by rw [hl]; exact hp)
            exact ⟨g, 0, rfl, hb.lt, fun f => f, fun j u hu => by
              rw [Nat.zero_add, hb.at_ j]
              simpa using hu⟩
          have HSB := hid hSB
          rw [HIC.out]
          clear hSB
          go_wp2_with (first
            | (go_at_call 43; refine HFI.out.mono ?_; rintro e w10 ⟨rfl, rfl⟩
               rw [show endE ⟨[], 0⟩ = 0 by decide])
            | (go_at_call 22; refine (hCl.out _ _).mono ?_; rintro e w10 ⟨rfl, rfl⟩; rw [hcl])
            | (go_at_call 23; refine (hT.out _ _).mono ?_; rintro e w10 ⟨rfl, rfl⟩; rw [htk])
            | (go_at_call 44; refine (hC.out _ _).mono ?_; rintro e w10 ⟨rfl, rfl⟩; rw [hce])
            | (go_at_call 36; refine (hV.out _ _).mono ?_; rintro e w10 ⟨rfl, rfl⟩; rw [hep])
            | (go_at_call 37; refine (hP.out _ _ _).mono ?_; rintro e w10 ⟨rfl, rfl⟩; rw [hpr]))
          go_loopw [115] (fun i wi => ∃ j : Nat, j ≤ ([] : List Int).length ∧ i = .int .i64 j ∧ wi = w9) (fun i _ => ([] : List Int).length - (RowKit.intOf i).toNat)
          case atStart => exact ⟨0, by omega, rfl, rfl⟩
          case round =>
            obtain ⟨j, hj, rfl, rfl⟩ := hrel
            by_cases hjl : j < ([] : List Int).length
            · exact absurd hjl (by simp)
            · have HSR := hid (HSB.out.src (Keep.refl (fun _ => False) wr))
              go_wp2_with (
                at_builtin
                refine EIn.law2 (.const (.slice none 0 0)) (.tmp 133) (.slice none 0 0) B ([] : List Int).length ([] : List Int).length rfl rfl rfl rfl wr.heap.size 0 [] (icells ([] : List Int)) ([] : List Int).length _ (Nat.zero_add _) rfl (Own.nil _ _ _ _) (by rw [HIC.out]; omega) HSR.out (icells_one _) (by omega) (by unfold maxLen; omega) (Nat.le_refl _) ?_
                intro A' c' w2 ho hg hw
                have HO := hid ho
                have HKc := hid ((Keep.refl (fun _ => False) wr).app (Own.nil wr wr.heap.size 3 1) hg (fun g h1 h2 => by omega))
                clear ho hg hw)
              go_ret2
              have hz := HK8.out.size
              have hzc := HKc.out.size
              have hbl := HO.out.block
              have hblt := HO.out.lt
              refine ⟨_, rfl, A'.map (·.block), A', c', ⟨Blk.made w2 54 _, Own.rebase (World.ownsRow.alloc HO.out _) (fun g _ => Nat.zero_le g), rfl, fun g e => ?_⟩, (HK8.out.then HKc.out).alloc _, by omega, fun g e => ?_⟩
              · have := hblt g (by rw [← e]; cases A' <;> rfl)
                omega
              · have := hbl g (by rw [← e]; cases A' <;> rfl)
                omega
      · omega
end Go.Proofs.Ytkkenfgpmoediaa

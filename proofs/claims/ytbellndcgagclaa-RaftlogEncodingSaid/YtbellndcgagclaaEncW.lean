import Derived.Test.YtbellndcgagclaaDecA
import Derived.Test.YtbellndcgagclaaPlay
import Derived.Test.YtbellndcgagclaaAt
namespace Go.Proofs.Ytbellndcgagclaa
open Go.RowKit

/-! ## Encoding -/
theorem peq_self (q : PE) : peq q q = true := by simp [peq]
set_option maxHeartbeats 8000000 in
set_option maxRecDepth 100000 in
theorem encoding_any (w : World) (x : En) (h : EnOk w (fun _ => False) x) : Calls Try.prog 10 #[x.val] w (PlainPost w true) := by
  have hk0 : Same w (w.alloc (.cells #[.int .i64 x.t, .int .i64 x.k, .slice x.A x.m x.c] 46)) := (Keep.refl _ w).alloc _
  have hb0 := Blk.made w 46 #[.int .i64 x.t, .int .i64 x.k, .slice x.A x.m x.c]
  have HB0 := hid hb0
  have HX := hid h
  have HK0 := hid hk0
  have HW := hid (wakes_any (w.alloc (.cells #[.int .i64 x.t, .int .i64 x.k, .slice x.A x.m x.c] 46)))
  have HE := hid (fun W (hk : Same w W) h9 => encode_any W (fun _ => False) x (h.same hk) h9)
  have HF := hid (fun W (hk : Same w W) h9 => rbytes_any W (fun _ => False) x (h.same hk) h9)
  have HR := hid (fun W (hk : Same w W) => right_any W (fun _ => False) x (h.same hk))
  have HA := hid (fun W Av (y : En) (hy : EnOk W Av y) (hk : Same w W) => alike_any W (fun _ => False) ⟨y.t, y.k, y.A, y.m, y.c, y.body⟩ x ⟨hy.body.wide (fun _ _ f => f.elim), hy.bytes, hy.cap⟩ (h.same hk))
  have hT : rightP x.pe = true → decE (encQ x.pe) = 0 ∧ decQ (encQ x.pe) = x.pe := fun hr => dec_enc hr h.bytes
  have hF : rightP x.pe = false → encQ x.pe = [] := fun hr => by unfold encQ; rw [hr]; rfl
  have HT := hid hT
  have HFF := hid hF
  have hbl : (encQ x.pe).length ≤ 1000000 := by
    unfold encQ
    by_cases hr : rightP x.pe = true
    · rw [if_pos hr]
      have := rightP_iff hr
      have := encE_le (t := x.pe.1) (k := x.pe.2.1) (b := toU x.pe.2.2) ⟨by omega, by omega⟩ ⟨by omega, by omega⟩ (by rw [toU_len]; omega)
      rw [toU_len] at this
      omega
    · rw [if_neg hr]; simp
  generalize hpe : x.pe = pe at *
  obtain ⟨t, k, A, m, c, y⟩ := x
  obtain ⟨⟨c0, c1, c2⟩, _⟩ := blk3 hb0
  unfold En.val at *
  simp only at *
  clear h hk0 hb0 hT hF
  by_cases h9 : 9000 < m
  · go_enter Try.func10, Try.ntmps10
    go_wp2_with fail
    refine HW.out.mono ?_
    rintro e w1 ⟨rfl, hk1⟩
    obtain ⟨⟨d0, d1, d2⟩, _⟩ := blk3 (HB0.out.keep hk1 (fun f => f))
    go_wp2_with fail
    go_ret
    exact ⟨rfl, HK0.out.then hk1⟩
  · have h9' : m ≤ 9000 := by omega
    obtain ⟨br, hbr⟩ : ∃ br, rightP pe = br := ⟨_, rfl⟩
    go_enter Try.func10, Try.ntmps10
    go_wp2_with fail
    refine HW.out.mono ?_
    rintro e w1 ⟨rfl, hk1⟩
    have HB1 := hid (HB0.out.keep hk1 (fun f => f))
    obtain ⟨⟨d0, d1, d2⟩, _⟩ := blk3 HB1.out
    have HK1 := hid (HK0.out.then hk1)
    have HE1 := hid (HE.out w1 HK1.out h9')
    clear hk1 HW HE c0 c1 c2
    go_wp2_with fail
    refine HE1.out.mono ?_
    rintro e w2 ⟨A2, n2, a2, rfl, hn2, hS2, hk2⟩
    have HB2 := hid (HB1.out.keep hk2 (fun f => f))
    obtain ⟨⟨e0, e1, e2⟩, _⟩ := blk3 HB2.out
    have HK2 := hid (HK1.out.then hk2).drew
    have HF2 := hid (HF.out w2.drew HK2.out h9')
    have HS2 := hid ((hS2.wide (Av' := fun _ => False) (fun _ _ f => f.elim)).same (Keep.refl (fun _ => False) w2).drew)
    have hcv2 := conv_str w2.drew _ _ _ a2 _ HS2.out
    clear hk2 hS2 HE1 HF d0 d1 d2
    go_wp2
    go_region_law (first
      | (go_simp
         go_at_call 32; (with_reducible refine HF2.out.mono ?_); rintro e w3 ⟨A3, n3, a3, rfl, hn3, hS3, hk3⟩
         have hcv3 := conv_str w3 _ _ _ a2 _ (HS2.out.same hk3)
         have hcw3 := conv_str w3 _ _ _ a3 _ hS3
         have HB3 := hid (HB2.out.drew.keep hk3 (fun f => f))
         have HK3 := hid (HK2.out.then hk3)
         have HS3 := hid (HS2.out.same hk3)
         clear hk3 hS3))
    all_goals
      clear hcv3 hcw3 hcv2 HF2
      have HD := hid (decode_any w3 _ A2 n2 a2 _ HS3.out (by omega))
      obtain ⟨⟨r0, r1, r2⟩, _⟩ := blk3 HB3.out
      generalize hbs : encQ pe = bs at *
      generalize hde : decE bs = de at *
      go_wp2_with fail
      refine HD.out.mono ?_
      rintro e w4 ⟨x4, rfl, hx4, hq4, hk4⟩
      have HK4 := hid ((HK3.out.then hk4))
      have hka : Same w4 (w4.alloc (.cells #[.int .i64 x4.t, .int .i64 x4.k, .slice x4.A x4.m x4.c] 46)) := (Keep.refl _ w4).alloc _
      obtain ⟨⟨s0, s1, s2⟩, _⟩ := blk3 ((HB3.out.keep hk4 (fun f => f)).keep hka (fun f => f))
      have HB4 := hid ((HB3.out.keep hk4 (fun f => f)).keep hka (fun f => f))
      have HC4 := hid (Blk.made w4 46 #[.int .i64 x4.t, .int .i64 x4.k, .slice x4.A x4.m x4.c])
      obtain ⟨⟨v0, v1, v2⟩, _⟩ := blk3 HC4.out
      have HKA := hid (HK4.out.then hka)
      have HR4 := hid (HR.out _ HKA.out)
      have HX4 := hid (hx4.same hka)
      have HQ4 := hid hq4
      clear hk4 hka hx4 hq4 HD HB3 HR r0 r1 r2 e0 e1 e2
      unfold En.val
      cases br with
      | false =>
        have e1 := HFF.out hbr
        subst e1
        have e2 : (11 : Int) = de := by rw [← hde]; exact dec_nil.symm
        subst e2
        have e3 : n2 = 0 := by rw [← hn2]; rfl
        subst e3
        rw [hbr] at HR4
        go_wp2_with fail
        refine HR4.out.mono ?_
        rintro e w5 ⟨rfl, hk5⟩
        go_wp2_with fail
        go_ret
        exact ⟨rfl, HKA.out.then hk5⟩
      | true =>
        have e1 := (HT.out hbr).1
        have e1' := (HT.out hbr).2
        subst e1
        rw [hbr] at HR4
        have hpq : x4.pe = pe := by rw [HQ4.out]; exact e1'
        have HPQ := hid hpq
        clear e1' hpq
        go_wp2_with fail
        refine HR4.out.mono ?_
        rintro e w5 ⟨rfl, hk5⟩
        obtain ⟨⟨p0, p1, p2⟩, _⟩ := blk3 (HB4.out.keep hk5 (fun f => f))
        obtain ⟨⟨q0, q1, q2⟩, _⟩ := blk3 (HC4.out.keep hk5 (fun f => f))
        have HK5 := hid (HKA.out.then hk5)
        have HA5 := hid (HA.out w5 _ x4 (HX4.out.same hk5) HK5.out)
        clear hk5
        go_wp2_with fail
        refine HA5.out.mono ?_
        rintro e w6 ⟨rfl, hk6⟩
        have hpx : peq (En.pe ⟨x4.t, x4.k, x4.A, x4.m, x4.c, x4.body⟩) pe = true := by
          rw [show En.pe ⟨x4.t, x4.k, x4.A, x4.m, x4.c, x4.body⟩ = x4.pe from rfl, HPQ.out]; exact peq_self pe
        rw [hpx]
        go_wp2_with fail
        go_ret
        exact ⟨rfl, HK5.out.then hk6⟩
end Go.Proofs.Ytbellndcgagclaa

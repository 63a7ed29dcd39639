import Derived.Test.YtbellndcgagclaaDecA
import Derived.Test.YtbellndcgagclaaPlay
import Derived.Test.YtbellndcgagclaaAt
namespace Go.Proofs.Ytbellndcgagclaa
open Go.RowKit

/-! ## Decoding -/
theorem peq_same {q r : PE} (h : q = r) : peq q r = true := by subst h; simp [peq]
theorem dec_facts (bs : List UInt8) : (¬ decE bs = 0 → decQ bs = (0, 0, []) ∧ (decE bs = 2 ∨ decE bs = 11)) ∧ (decE bs = 0 → rightP (decQ bs) = true ∧ encQ (decQ bs) = bs ∧ 1 ≤ bs.length ∧ (∀ c, c < bs.length → decE (bs.take c) = 11) ∧ decE (bs ++ [0]) = 2) := by
  constructor
  · intro h
    exact ⟨by unfold decQ; rw [if_neg h], decE_err bs h⟩
  · intro h
    obtain ⟨h1, h2, h3⟩ := dec_of bs h
    have e : decQ bs = decV bs := by unfold decQ; rw [if_pos h]
    have hr := rightP_iff h1
    have hb : (decR bs).1.length ≤ 1000000 := by
      have : (decV bs).2.2.length = (decR bs).1.length := by simp [decV, ofU]
      omega
    have ht : i64ok (decV bs).1 := ⟨by omega, by omega⟩
    have hk : i64ok (decV bs).2.1 := ⟨by omega, by omega⟩
    refine ⟨by rw [e]; exact h1, by rw [e]; exact h3, ?_, ?_, ?_⟩
    · rw [h2]; exact encE_pos _ _ _
    · intro c hc
      rw [h2] at hc ⊢
      exact dec_cut ht hk hb hc
    · have := dec_more ht hk hb
      rwa [← h2] at this
set_option maxHeartbeats 8000000 in
set_option maxRecDepth 100000 in
theorem decoding_any (w : World) (A : Option Addr) (n c : Nat) (l : List Int) (hS : Sl w (fun _ => False) 1 A n (ubs l)) (hW : ∀ b ∈ l, 0 ≤ b ∧ b ≤ 255) (hc : n ≤ c) (k : Int) (k0 : 0 ≤ k) (k1 : k ≤ 65535) :
    Calls Try.prog 9 #[.slice A n c, .int .u16 k] w (PlainPost w true) := by
  have hl : (toU l).length = n := by have := hS.len; simpa [ubs, toU] using this
  rw [← bcells_toU hW] at hS
  generalize toU l = bs at *
  clear hW l
  obtain ⟨hf1, hf2⟩ := dec_facts bs
  have HL := hid hl
  have HS := hid (fun W (hk : Same w W) => hS.same hk)
  have HW := hid (wakes_any w)
  have HD := hid (fun W (hk : Same w W) hn => decode_any W (fun _ => False) A n c bs (hS.same hk) hn)
  by_cases h9 : 9000 < n
  · go_enter Try.func9, Try.ntmps9
    go_wp2_with fail
    refine HW.out.mono ?_
    rintro e w1 ⟨rfl, hk1⟩
    go_wp2_with fail
    go_ret
    exact ⟨rfl, hk1⟩
  · have h9' : n ≤ 9000 := by omega
    by_cases her : decE bs = 0
    · obtain ⟨hr, henc, hpos, hcut, hmore⟩ := hf2 her
      obtain ⟨kk, rfl⟩ : ∃ kk : Nat, k = (kk : Int) := ⟨k.toNat, by omega⟩
      have hrn : kk % n < n := Nat.mod_lt _ (by omega)
      have hmod : ((kk : Int) % (n : Int)) = ((kk % n : Nat) : Int) := (Int.natCast_emod kk n).symm
      generalize kk % n = r at hrn hmod
      have hcut' := hcut r (by omega)
      have HCUT := hid hcut'
      have HMORE := hid hmore
      have HR := hid hr
      have HENC := hid henc
      have HTK := hid (fun W (hk : Same w W) => decode_any W (fun _ => False) A r c (bs.take r) (by
        have := (hS.same hk).take r (by omega)
        rw [Nat.mul_one] at this
        simpa [bcells] using this) (by omega))
      unfold DecPost at HTK HD
      rw [hcut'] at HTK
      rw [her] at HD
      obtain ⟨b, off, rfl, _⟩ := hS.at_ (by omega)
      clear hf1 hf2 hcut hcut' hmore hr henc
      go_enter Try.func9, Try.ntmps9
      go_wp2_with fail
      refine HW.out.mono ?_
      rintro e w1 ⟨rfl, hk1⟩
      have HK1 := hid hk1
      have HD1 := hid (HD.out w1 hk1 (by omega))
      clear hk1
      go_wp2_with fail
      refine HD1.out.mono ?_
      rintro e w2 ⟨x, rfl, hx, hq, hk2⟩
      have hka : Same w2 (w2.alloc (.cells #[.int .i64 x.t, .int .i64 x.k, .slice x.A x.m x.c] 46)) := (Keep.refl _ w2).alloc _
      have hb2 := Blk.made w2 46 #[.int .i64 x.t, .int .i64 x.k, .slice x.A x.m x.c]
      have HK2 := hid ((HK1.out.then hk2).then hka).drew
      obtain ⟨⟨v0, v1, v2⟩, _⟩ := blk3 hb2
      have hm := rightP_iff HR.out
      rw [← hq] at hm
      have hmx : x.m ≤ 9000 := by have := hx.len; simp only [En.pe] at hm; omega
      have HB2 := hid hb2.drew
      have HX2 := hid (hx.same hka.drew)
      have HRT := hid (right_any _ _ _ HX2.out)
      have HRB := hid (fun W (hk : Same (w2.alloc (.cells #[.int .i64 x.t, .int .i64 x.k, .slice x.A x.m x.c] 46)).drew W) => rbytes_any W _ _ (HX2.out.same hk) hmx)
      rw [hq, HR.out] at HRT
      rw [hq, HENC.out] at HRB
      unfold En.val at HRT HRB ⊢
      have HQ := hid hq
      clear hk2 hka hb2 hx hm HD1 hq
      go_wp2
      go_region_law (first
        | (go_simp
           go_at_call 31; (with_reducible refine HRT.out.mono ?_); rintro e w3 ⟨rfl, hk3⟩
           have HK3 := hid hk3
           have HRB3 := hid (HRB.out _ hk3)
           obtain ⟨⟨r0, r1, r2⟩, _⟩ := blk3 (HB2.out.keep hk3 (fun f => f))
           have hcv3 := conv_str w3 _ (some ⟨b, off, none⟩) n c _ (HS.out _ (HK2.out.then hk3))
           clear hk3)
        | (go_simp
           go_at_call 32; (with_reducible refine HRB3.out.mono ?_); rintro e w4 ⟨A4, n4, a4, rfl, hn4, hS4, hk4⟩
           have hcv4 := conv_str w4 _ _ _ a4 _ hS4
           have hcw4 := conv_str w4 _ (some ⟨b, off, none⟩) n c _ (HS.out _ ((HK2.out.then HK3.out).then hk4))
           have HK4 := hid ((HK2.out.then HK3.out).then hk4)
           clear hk4 hS4))
      all_goals
        clear hcv3 hcv4 hcw4
        have HT5 := hid (HTK.out w4 HK4.out)
        go_wp2_with fail
        refine HT5.out.mono ?_
        rintro e w5 ⟨y, rfl, _, _, hk5⟩
        have hka : Same w5 (w5.alloc (.cells #[.int .i64 y.t, .int .i64 y.k, .slice y.A y.m y.c] 46)) := (Keep.refl _ w5).alloc _
        have HK5 := hid ((HK4.out.then hk5).then hka)
        have hz5 := (HK4.out.then hk5).size
        have ho6 := Own.lit0 (w5.alloc (.cells #[.int .i64 y.t, .int .i64 y.k, .slice y.A y.m y.c] 46)) 5 1
        rw [World.size_alloc] at ho6
        have HO6 := hid ho6
        have HK6 := hid (HK5.out.alloc (.cells #[] 5))
        have hz6 := HK5.out.size
        have HSR := hid ((HS.out _ HK6.out).src (Keep.refl (fun _ => False) _))
        have HMR := HMORE
        clear hk5 hka HT5 ho6
        unfold En.val
        go_wp2_with (first
          | (at_builtin
             refine EBy.law2 (.tmp 57) (.tmp 58) (.slice (some ⟨w5.heap.size + 1, 0, none⟩) 0 0) (some ⟨b, off, none⟩) n c rfl rfl rfl rfl (w5.heap.size + 1) 0 [] (bcells bs) n _ (Nat.zero_add n) rfl HO6.out (by rw [bcells_len, HL.out]; omega) HSR.out (bcells_one _) (by omega) (by unfold maxLen; omega) (by simp) ?_
             intro A7 c7 w7 ho hg hw
             have HK7 := hid (HK6.out.app HO6.out hg (fun g h1 h2 => by omega))
             have HO7 := hid (World.ownsRow.alloc ho (.cells #[.int .u8 0] 5))
             have hz7 := HK7.out.size
             have hz67 : (w5.heap.size + 1) ≤ w7.heap.size := by
               have hh := ((Keep.refl (fun _ => True) _).alloc _ |>.app HO6.out hg (fun _ _ _ => trivial) : Keep (fun _ => True) (w5.alloc (.cells #[.int .i64 y.t, .int .i64 y.k, .slice y.A y.m y.c] 46)) w7).size
               rw [World.size_alloc] at hh
               exact hh
             clear ho hg hw)
          | (at_builtin
             refine EBy.law2 (.tmp 59) (.tmp 60) (.slice A7 n c7) (some ⟨w7.heap.size, 0, none⟩) 1 1 rfl rfl rfl rfl (w5.heap.size + 1) n (bcells bs) [.int .u8 0] (n + 1) _ rfl rfl HO7.out rfl (fun _ => ⟨_, rfl, src_new rfl⟩) (by intro u hu; simp at hu; subst hu; rfl) (by omega) (by unfold maxLen; omega) (by simp; omega) ?_
             intro A8 c8 w8 ho hg hw
             have HK8 := hid ((HK7.out.alloc (.cells #[.int .u8 0] 5)).app HO7.out hg (fun g h1 h2 => by omega))
             have hs8 : Sl w8 (fun _ => False) 1 A8 (n + 1) (bcells (bs ++ [0])) := by
               rw [bcells_app]
               exact ho.sl (fun _ _ f => f)
             have HD8 := hid (decode_any w8 _ A8 (n + 1) c8 _ hs8 (by omega))
             unfold DecPost at HD8
             rw [HMORE.out] at HD8
             clear ho hg hw hs8))
        refine HD8.out.mono ?_
        rintro e w9 ⟨z, rfl, _, _, hk9⟩
        unfold En.val
        go_wp2_with fail
        go_ret
        exact ⟨rfl, (HK8.out.then hk9).alloc _⟩
    · obtain ⟨hq0, her2⟩ := hf1 her
      have hne : (decE bs != 0) = true := by simpa using her
      have HA := hid (fun W Av (y : En) (hy : EnOk W Av y) => alike_any W Av y ⟨0, 0, none, 0, 0, []⟩ hy (en0 _ _))
      clear hf1 hf2
      unfold DecPost at HD
      rw [hq0] at HD
      rcases her2 with her2 | her2
      all_goals
        rw [her2] at HD
        go_enter Try.func9, Try.ntmps9
        go_wp2_with fail
        refine HW.out.mono ?_
        rintro e w1 ⟨rfl, hk1⟩
        have HK1 := hid hk1
        have HD1 := hid (HD.out w1 hk1 (by omega))
        clear hk1
        go_wp2_with fail
        refine HD1.out.mono ?_
        rintro e w2 ⟨x, rfl, hx, hq, hk2⟩
        have hka : Same w2 (w2.alloc (.cells #[.int .i64 x.t, .int .i64 x.k, .slice x.A x.m x.c] 46)) := (Keep.refl _ w2).alloc _
        obtain ⟨⟨v0, v1, v2⟩, _⟩ := blk3 (Blk.made w2 46 #[.int .i64 x.t, .int .i64 x.k, .slice x.A x.m x.c])
        have HK2 := hid ((HK1.out.then hk2).then hka)
        have HAL := hid (HA.out _ _ x (hx.same hka))
        rw [peq_same (show x.pe = En.pe ⟨0, 0, none, 0, 0, []⟩ from hq)] at HAL
        unfold En.val at HAL ⊢
        clear hk2 hka hx hq HD1
        go_wp2_with fail
        refine HAL.out.mono ?_
        rintro e w3 ⟨rfl, hk3⟩
        go_wp2_with fail
        go_ret
        exact ⟨rfl, HK2.out.then hk3⟩
end Go.Proofs.Ytbellndcgagclaa

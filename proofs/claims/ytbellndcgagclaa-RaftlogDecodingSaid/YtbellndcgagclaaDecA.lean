import Derived.Test.YtbellndcgagclaaEncA
namespace Go.Proofs.Ytbellndcgagclaa
open Go.RowKit

/-! ## Decode -/
def DecPost (w : World) (bs : List UInt8) (e : Ending) (w' : World) : Prop :=
  ∃ x : En, e = .returned (.tuple #[x.val, .int .i64 (decE bs)]) ∧ EnOk w' (· < w.heap.size) x ∧ x.pe = decQ bs ∧ Same w w'
theorem en0 (w : World) (Av : Nat → Prop) : EnOk w Av ⟨0, 0, none, 0, 0, []⟩ := ⟨Sl.nil _ _ _ _, by simp, Nat.le_refl _⟩
/-- the cell of three that holds the result -/
theorem blk3 {w1 : World} {g : Nat} {u v x : Value} (h : Blk w1 g 46 #[u, v, x]) : (w1.cell? ⟨g, 0, none⟩ = some u ∧ w1.cell? ⟨g, 1, none⟩ = some v ∧ w1.cell? ⟨g, 2, none⟩ = some x) ∧ w1.frozen? ⟨g, 0, none⟩ = false ∧ w1.frozen? ⟨g, 1, none⟩ = false ∧ w1.frozen? ⟨g, 2, none⟩ = false :=
  ⟨⟨h.at_ 0, h.at_ 1, h.at_ 2⟩, h.free 0, h.free 1, h.free 2⟩
theorem blk3_put {w1 : World} {g : Nat} {u v x : Value} (h : Blk w1 g 46 #[u, v, x]) (a b c : Value) : Blk (((w1.setCell ⟨g, 0, none⟩ a).setCell ⟨g, 1, none⟩ b).setCell ⟨g, 2, none⟩ c) g 46 #[a, b, c] := ((h.put 0 a).put 1 b).put 2 c
theorem keep3 (w1 : World) (g : Nat) (a b c : Value) : Keep (· = g) w1 (((w1.setCell ⟨g, 0, none⟩ a).setCell ⟨g, 1, none⟩ b).setCell ⟨g, 2, none⟩ c) := (((Keep.refl _ w1).put 0 _).put 1 _).put 2 _
set_option maxHeartbeats 8000000 in
set_option maxRecDepth 100000 in
theorem decode_any (w : World) (Av : Nat → Prop) (A : Option Addr) (n c : Nat) (bs : List UInt8) (h : Sl w Av 1 A n (bcells bs)) (hn : n ≤ 1000000) : Calls Try.prog 30 #[.slice A n c] w (DecPost w bs) := by
  have hbl : bs.length = n := by have := h.len; simpa [bcells] using this
  have HB0 := hid (Blk.made w 46 #[.int .i64 0, .int .i64 0, .slice none 0 0])
  have hk0 : Same w (w.alloc (.cells #[.int .i64 0, .int .i64 0, .slice none 0 0] 46)) := (Keep.refl _ w).alloc _
  have HK0 := hid hk0
  have HR := hid (newReader_any _ Av A n c bs (h.same hk0) (by omega))
  have hq1 := rdInt_len ⟨bs, 0⟩
  have hq2 := rdInt_len (rdInt ⟨bs, 0⟩).2
  have HE : Hid (decE bs = if endE (decR bs).2 = 0 then (if rightP (decV bs) = true then 0 else 2) else endE (decR bs).2) := hid rfl
  have HQ : Hid (decQ bs = if decE bs = 0 then decV bs else (0, 0, [])) := hid rfl
  unfold decV decR at HE
  unfold decV at HQ
  unfold decR at HQ
  clear h hk0
  unfold DecPost
  generalize decQ bs = dq at *
  generalize decE bs = de at *
  generalize hp1 : rdInt ⟨bs, 0⟩ = p1 at *
  generalize hp2 : rdInt p1.2 = p2 at *
  generalize hp3 : rdBytes p2.2 = p3 at *
  simp only at hq1
  go_enter Try.func30, Try.ntmps30
  go_wp2_with fail
  refine HR.out.mono ?_
  rintro e w1 ⟨rb, A1, c1, rfl, hrb, hR1, hk1⟩
  have HK1 := hid (HK0.out.then hk1)
  have HB1 := hid (HB0.out.keep hk1 (fun f => f))
  have hz1 := hk1.size
  simp only [World.size_alloc] at hrb hz1
  have hC1 := rInt_any w1 rb _ A1 bs.length c1 ⟨bs, 0⟩ hR1
  rw [hp1] at hC1
  have HC1 := hid hC1
  clear hk1 hR1 hC1 HR
  go_wp2_with fail
  refine HC1.out.mono ?_
  rintro e w2 ⟨A2, n2, c2, rfl, hR2, hk2⟩
  have hC2 := rInt_any w2 rb _ A2 n2 c2 _ hR2
  rw [hp2] at hC2
  have HC2 := hid hC2
  have HK2 := hid (HK1.out.trans hk2 (fun i hi e => by omega))
  have HB2 := hid (HB1.out.keep hk2 (by omega))
  have hz2 := hk2.size
  clear hk2 hR2 hC2 HC1
  go_wp2_with fail
  refine HC2.out.mono ?_
  rintro e w3 ⟨A3, n3, c3, rfl, hR3, hk3⟩
  have hC3 := rBytes_any w3 rb _ A3 n3 c3 _ hR3 (by omega)
  rw [hp3] at hC3
  have HC3 := hid hC3
  have HK3 := hid (HK2.out.trans hk3 (fun i hi e => by omega))
  have HB3 := hid (HB2.out.keep hk3 (by omega))
  have hz3 := hk3.size
  clear hk3 hR3 hC3 HC2
  go_wp2_with fail
  refine HC3.out.mono ?_
  rintro e w4 ⟨A4, n4, c4, B, rfl, hR4, hk4, hB4⟩
  have hq3 := rdMany_len p2.2
  have hl3 : p3.1.length ≤ 1000000 := by
    rw [← hp3]
    unfold rdBytes
    split
    · simp
    · simp only [List.length_take]; omega
  have hq4 : p3.2.rest.length ≤ 1000000000 := by
    rw [← hp3]
    unfold rdBytes
    split
    · simp only; omega
    · simp only [List.length_drop]; omega
  have HC4 := hid (finish_any w4 rb _ A4 n4 c4 _ hR4 hq4)
  have HK4 := hid (HK3.out.trans hk4 (fun i hi e => by omega))
  have HB4 := hid (HB3.out.keep hk4 (by omega))
  have hsz3 := HK3.out.size
  have hen : EnOk w4 (· < w.heap.size + 1) ⟨p1.1, p2.1, B, (bcells p3.1).length, (bcells p3.1).length, ofU p3.1⟩ := by
    refine ⟨?_, ofU_bound _, Nat.le_refl _⟩
    show Sl w4 _ 1 B (bcells p3.1).length (ubs (ofU p3.1))
    rw [ubs_ofU]
    rcases Nat.eq_zero_or_pos (bcells p3.1).length with h0 | h0
    · rw [h0, List.eq_nil_of_length_eq_zero h0]
      exact Sl.nil _ _ _ _
    · obtain ⟨g, rfl, hg, hb⟩ := hB4 h0
      exact Sl.of_blk hb (by simp [bcells]) (by omega)
  have HEN := hid hen
  clear hk4 hR4 hB4 HC3 hen hp1 hp2 hp3 hq1 hq2 hq3
  generalize endE p3.2 = er at *
  generalize (bcells p3.1).length = bl at *
  generalize ofU p3.1 = body at *
  generalize p1.1 = t at *
  generalize p2.1 = k at *
  clear HB0 HK0 HB1 HK1 HB2 HK2 HB3 HK3
  obtain ⟨⟨c0, c1', c2'⟩, f0, f1, f2⟩ := blk3 HB4.out
  have hlt := HB4.out.lt
  by_cases her : er = 0
  · subst her
    rw [if_pos rfl] at HE
    have hb5 := Blk.made w4 46 #[.int .i64 t, .int .i64 k, .slice B bl bl]
    have hka : Same w4 (w4.alloc (.cells #[.int .i64 t, .int .i64 k, .slice B bl bl] 46)) := (Keep.refl _ w4).alloc _
    have HKA := hid hka
    obtain ⟨⟨z0, z1, z2⟩, _⟩ := blk3 hb5
    have HB5 := hid hb5
    have HV := hid (valid_any _ _ _ (HEN.out.same hka))
    clear hb5 hka
    go_wp2_with fail
    refine HC4.out.mono ?_
    rintro e w5 ⟨rfl, rfl⟩
    go_wp2_with fail
    refine HV.out.mono ?_
    rintro e w6 ⟨rfl, hk6⟩
    have HB6 := hid (HB5.out.keep hk6 (fun f => f))
    have HB7 := hid ((HB4.out.keep HKA.out (fun f => f)).keep hk6 (fun f => f))
    have HK6 := hid (HKA.out.then hk6)
    obtain ⟨⟨g0, g1, g2⟩, _⟩ := blk3 HB6.out
    obtain ⟨⟨r0, r1, r2⟩, s0, s1, s2⟩ := blk3 HB7.out
    clear c0 c1' c2' f0 f1 f2 z0 z1 z2 hk6 HV HC4
    simp only [En.pe]
    by_cases hr : rightP (t, k, body) = true
    · rw [hr]
      rw [if_pos hr] at HE
      rw [HE.out, if_pos rfl] at HQ
      go_wp2_with fail
      have HP := hid (blk3_put HB7.out (.int .i64 t) (.int .i64 k) (.slice B bl bl))
      have hk7 := keep3 w6 w.heap.size (.int .i64 t) (.int .i64 k) (.slice B bl bl)
      generalize ((w6.setCell ⟨w.heap.size, 0, none⟩ (.int .i64 t)).setCell ⟨w.heap.size, 1, none⟩ (.int .i64 k)).setCell ⟨w.heap.size, 2, none⟩ (.slice B bl bl) = w7 at *
      obtain ⟨⟨q0, q1, q2⟩, _⟩ := blk3 HP.out
      refine bodyPost_ret (v := .tuple #[.agg #[.int .i64 t, .int .i64 k, .slice B bl bl], .int .i64 0]) (by simp [results, Try.results30, go_sem, q0, q1, q2]) rfl ⟨⟨t, k, B, bl, bl, body⟩, by rw [HE.out]; rfl, ?_, HQ.out.symm, ?_⟩
      · exact ((HEN.out.same HK6.out).keep (S := fun i => i = w.heap.size) (Av := fun i => i < w.heap.size + 1) hk7 (fun i _ hs => by omega)).wide (fun i _ hs => by omega)
      · exact (HK4.out.then HK6.out).trans hk7 (fun i hi e => by omega)
    · have hr' : rightP (t, k, body) = false := by simpa using hr
      rw [hr']
      rw [if_neg hr] at HE
      rw [HE.out, if_neg (by decide)] at HQ
      go_wp2_with fail
      have HP := hid (blk3_put HB7.out (.int .i64 0) (.int .i64 0) (.slice none 0 0))
      have hk7 := keep3 w6 w.heap.size (.int .i64 0) (.int .i64 0) (.slice none 0 0)
      generalize ((w6.setCell ⟨w.heap.size, 0, none⟩ (.int .i64 0)).setCell ⟨w.heap.size, 1, none⟩ (.int .i64 0)).setCell ⟨w.heap.size, 2, none⟩ (.slice none 0 0) = w7 at *
      obtain ⟨⟨q0, q1, q2⟩, _⟩ := blk3 HP.out
      refine bodyPost_ret (v := .tuple #[.agg #[.int .i64 0, .int .i64 0, .slice none 0 0], .int .i64 2]) (by simp [results, Try.results30, go_sem, q0, q1, q2]) rfl ⟨⟨0, 0, none, 0, 0, []⟩, by rw [HE.out]; rfl, en0 _ _, HQ.out.symm, (HK4.out.then HK6.out).trans hk7 (fun i hi e => by omega)⟩
  · rw [if_neg her] at HE
    have hne : (er != 0) = true := by simpa using her
    rw [HE.out, if_neg her] at HQ
    go_wp2_with fail
    refine HC4.out.mono ?_
    rintro e w5 ⟨rfl, rfl⟩
    go_wp2_with fail
    have HP := hid (blk3_put HB4.out (.int .i64 0) (.int .i64 0) (.slice none 0 0))
    have hk7 := keep3 w4 w.heap.size (.int .i64 0) (.int .i64 0) (.slice none 0 0)
    generalize ((w4.setCell ⟨w.heap.size, 0, none⟩ (.int .i64 0)).setCell ⟨w.heap.size, 1, none⟩ (.int .i64 0)).setCell ⟨w.heap.size, 2, none⟩ (.slice none 0 0) = w7 at *
    obtain ⟨⟨q0, q1, q2⟩, _⟩ := blk3 HP.out
    refine bodyPost_ret (v := .tuple #[.agg #[.int .i64 0, .int .i64 0, .slice none 0 0], .int .i64 er]) (by simp [results, Try.results30, go_sem, q0, q1, q2]) rfl ⟨⟨0, 0, none, 0, 0, []⟩, by rw [HE.out]; rfl, en0 _ _, HQ.out.symm, HK4.out.trans hk7 (fun i hi e => by omega)⟩
end Go.Proofs.Ytbellndcgagclaa

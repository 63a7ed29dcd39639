import Derived.Test.YtohgclbgjdpggaaWireX
namespace Go.Proofs.Ytohgclbgjdpggaa
open Go.RowKit

/-- a round of the reference's Get of integers -/
def RQs (w : World) (rb : Nat) (Av : Nat → Prop) (m : Nat) (fin : List Int × RS) (k : Nat) (wr : World) : Prop :=
  ∃ (xs : List Int) (s : RS) (A : Option Addr) (n c : Nat) (L : Option Addr) (p cl : Nat), xs.length = p ∧ p ≤ k ∧ Own wr (w.heap.size + 2) 3 1 (.slice L p cl) p (xs.map (.int .i64)) ∧
    Blk wr (w.heap.size + 1) 33 #[.int .i64 4, .int .i64 0, .bool false, .string ⟨#[]⟩, .slice L p cl] ∧ Blk wr w.heap.size 33 #[.int .i64 0, .int .i64 0, .bool false, .string ⟨#[]⟩, .slice none 0 0] ∧
    Rq wr rb (fun i => Av i ∨ w.heap.size ≤ i) A n c s ∧ Keep (· = rb) w wr ∧ s.rest.length ≤ 1000000000 ∧ ((s.err = 0 ∧ p = k ∧ rdL (m - k) xs s = fin) ∨ (¬ s.err = 0 ∧ fin = ([], s)))

section
variable (w : World) (rb : Nat) (Av : Nat → Prop) (A : Option Addr) (n c : Nat)
set_option maxRecDepth 100000 in
set_option maxHeartbeats 8000000 in
theorem get4_any (s : RS) (h : Rq w rb Av A n c s) (hsz : s.rest.length ≤ 1000000000) :
    Calls Try.prog 13 #[.pointer (some ⟨rb, 0, none⟩), .int .i64 4] w (TqPost w rb Av (getT 4 s).1 (getT 4 s).2) := by
  have hka : Same w ((w.alloc (.cells #[.int .i64 0, .int .i64 0, .bool false, .string ⟨#[]⟩, .slice none 0 0] 33)).alloc (.cells #[.int .i64 4, .int .i64 0, .bool false, .string ⟨#[]⟩, .slice none 0 0] 33)) := ((Keep.refl _ w).alloc _).alloc _
  have hR := (h.wide (Av' := fun i => Av i ∨ w.heap.size ≤ i) (fun i hi hs => by rcases hs with hs | hs; exact hs; omega)).same hka
  have hrb := h.top.lt
  have HB1 := hid ((Blk.made w 33 #[.int .i64 0, .int .i64 0, .bool false, .string ⟨#[]⟩, .slice none 0 0]).alloc (.cells #[.int .i64 4, .int .i64 0, .bool false, .string ⟨#[]⟩, .slice none 0 0] 33))
  have hb2 := Blk.made (w.alloc (.cells #[.int .i64 0, .int .i64 0, .bool false, .string ⟨#[]⟩, .slice none 0 0] 33)) 33 #[.int .i64 4, .int .i64 0, .bool false, .string ⟨#[]⟩, .slice none 0 0]
  rw [World.size_alloc] at hb2
  have HB2 := hid hb2
  have HK := hid hka
  have HC := hid (many_any _ rb (fun i => Av i ∨ w.heap.size ≤ i) A n c s hR hsz)
  have hlen := rdMany_len s
  have hfit := @rdMany_fit s
  have hbad := @rdMany_bad s
  rw [show getT 4 s = (⟨4, 0, false, [], (rdInts s).1⟩, (rdInts s).2) by simp [getT]]
  unfold rdInts
  clear h hb2 hka hR
  generalize rdMany s = q at *
  obtain ⟨v, l1, e1⟩ := q
  simp only at HC hlen hfit hbad ⊢
  have hv0 : 0 ≤ v := by
    by_cases he : e1 = 0
    · exact (hfit he).1
    · rw [hbad he]; omega
  have hvl : v ≤ 1000000000 := by
    by_cases he : e1 = 0
    · have := (hfit he).2; omega
    · rw [hbad he]; omega
  obtain ⟨m, rfl⟩ := Int.eq_ofNat_of_zero_le hv0
  have hm : m ≤ 1000000000 := by omega
  obtain ⟨fin, hfin⟩ : ∃ fin, rdL (m : Int).toNat [] ⟨l1, e1⟩ = fin := ⟨_, rfl⟩
  rw [hfin]
  rw [Int.toNat_natCast] at hfin
  have HI0 : Hid ((e1 = 0 ∧ (0 : Nat) = 0 ∧ rdL (m - 0) [] ⟨l1, e1⟩ = fin) ∨ (¬ e1 = 0 ∧ fin = ([], ⟨l1, e1⟩))) := hid (by
    by_cases he : e1 = 0
    · exact .inl ⟨he, rfl, hfin⟩
    · refine .inr ⟨he, ?_⟩
      have := hbad he
      have hm0 : m = 0 := by omega
      rw [hm0] at hfin
      rw [← hfin]; rfl)
  clear hfit hbad hfin hv0 hvl
  go_enter Try.func13, Try.ntmps13
  go_wp2_with fail
  refine HC.out.mono ?_
  rintro e w2 ⟨A2, n2, c2, rfl, g1, g2⟩
  have HI : Hid (RQs w rb Av m fin 0 w2) := hid ⟨[], ⟨l1, e1⟩, A2, n2, c2, none, 0, 0, rfl, Nat.le_refl _, Own.nil _ _ _ _, HB2.out.keep g2 (by omega), HB1.out.keep g2 (by omega), g1, (HK.out.wide (T := (· = rb)) (fun _ _ f => f.elim)).trans g2 (fun _ _ h => h), by simp only; omega, by
    rcases HI0.out with ⟨a, _, b⟩ | h
    · exact .inl ⟨a, rfl, b⟩
    · exact .inr h⟩
  clear g1 g2 HI0 HC
  go_wp2
  go_loopw [8] (fun i wr => ∃ k : Nat, k ≤ m ∧ i = .int .i64 k ∧ RQs w rb Av m fin k wr) (fun i _ => m - (RowKit.intOf i).toNat)
  case atStart => exact ⟨0, by omega, rfl, HI.out⟩
  case round =>
    obtain ⟨k, hkm, rfl, xs, s3, A3, n3, c3, L, p, cl, hxl, hpk, hO, hb2, hb1, hR, hK, hsl, hor⟩ := hrel
    have HXL := hid hxl
    have HO := hid hO
    have HB2 := hid hb2
    have HB1 := hid hb1
    have HR := hid hR
    have HK3 := hid hK
    have c1 : wr.cell? ⟨rb, 1, none⟩ = some (.int .i64 s3.err) := hR.top.at_ 1
    have x0 : wr.cell? ⟨w.heap.size + 1, 0, none⟩ = some (.int .i64 4) := hb2.at_ 0
    have x1 : wr.cell? ⟨w.heap.size + 1, 1, none⟩ = some (.int .i64 0) := hb2.at_ 1
    have x2 : wr.cell? ⟨w.heap.size + 1, 2, none⟩ = some (.bool false) := hb2.at_ 2
    have x3 : wr.cell? ⟨w.heap.size + 1, 3, none⟩ = some (.string ⟨#[]⟩) := hb2.at_ 3
    have x4 : wr.cell? ⟨w.heap.size + 1, 4, none⟩ = some (.slice L p cl) := hb2.at_ 4
    have y0 : wr.cell? ⟨w.heap.size, 0, none⟩ = some (.int .i64 0) := hb1.at_ 0
    have y1 : wr.cell? ⟨w.heap.size, 1, none⟩ = some (.int .i64 0) := hb1.at_ 1
    have y2 : wr.cell? ⟨w.heap.size, 2, none⟩ = some (.bool false) := hb1.at_ 2
    have y3 : wr.cell? ⟨w.heap.size, 3, none⟩ = some (.string ⟨#[]⟩) := hb1.at_ 3
    have y4 : wr.cell? ⟨w.heap.size, 4, none⟩ = some (.slice none 0 0) := hb1.at_ 4
    have f0 := hb2.free
    have f1 := hb1.free
    have z1 := hb2.lt
    have hrb2 := hR.top.lt
    clear hxl hO hb2 hb1 hR hK
    by_cases he : s3.err = 0
    · rw [he] at c1
      have hor2 : p = k ∧ rdL (m - k) xs s3 = fin := by
        rcases hor with h | h
        · exact ⟨h.2.1, h.2.2⟩
        · exact absurd he h.1
      obtain ⟨hpk2, hrd⟩ := hor2
      subst hpk2
      have HRD := hid hrd
      clear hor hrd he
      by_cases hlt : p < m
      · have hmk1 : m - p = (m - (p + 1)) + 1 := by omega
        have hrd := HRD.out
        rw [hmk1, rdL] at hrd
        have HRD2 := hid hrd
        have hkd : Same wr wr.drew := (Keep.refl _ wr).drew
        have HKD := hid hkd
        have HCI := hid (qInt_any wr.drew rb (fun i => Av i ∨ w.heap.size ≤ i) A3 n3 c3 s3 (HR.out.same hkd) hsl)
        have hle := rdInt_len s3
        clear hmk1 hrd HRD hkd
        generalize rdInt s3 = q at *
        obtain ⟨v, s5⟩ := q
        simp only at HRD2 HCI hle
        go_wp2
        go_region_law (first
          | (go_simp
             go_at_call 32; (with_reducible refine HCI.out.mono ?_); rintro e w5 ⟨A5, n5, c5, rfl, g1, g2⟩
             have hk5 := HKD.out.wide (T := (· = rb)) (fun _ _ f => f.elim) |>.trans g2 (fun _ _ h => h)
             have HR5 := hid g1
             have hB5 := HB2.out.keep hk5 (by omega)
             have x5 : w5.cell? ⟨w.heap.size + 1, 4, none⟩ = some (.slice L p cl) := hB5.at_ 4
             have z5 := hB5.lt
             have HB5 := hid hB5
             have HC5 := hid (HB1.out.keep hk5 (by omega))
             have HK5 := hid hk5
             have HOa := hid (World.ownsRow.alloc (HO.out.keep hk5 (fun i hi _ e => by omega)) (.cells #[.int .i64 v] 3))
             have hsz5 := hk5.size
             clear g1 g2 hk5 hB5)
          | (refine EIn.step2 rfl (.tmp 106) (.tmp 109) rfl (.slice L p cl) (some ⟨w5.heap.size, 0, none⟩) 1 1 rfl rfl (w.heap.size + 2) p (xs.map (.int .i64)) [.int .i64 v] (p + 1) _ rfl rfl HOa.out rfl (fun _ => ⟨_, rfl, src_new rfl⟩) (by intro u hu; simp at hu; subst hu; rfl) (by omega) (by unfold maxLen; omega) (by simp; omega) ?_
             intro A7 c7 w7 ho7 hg7 hw7
             have hk57 : Keep (fun i => w.heap.size + 2 ≤ i) w5 w7 := (((Keep.refl (fun i => w.heap.size + 2 ≤ i) w5).alloc (.cells #[.int .i64 v] 3)).app HOa.out hg7 (fun g h1 _ => h1))
             have hB7 := HB5.out.keep hk57 (by omega)
             have x7 : w7.cell? ⟨w.heap.size + 1, 4, none⟩ = some (.slice L p cl) := hB7.at_ 4
             have f7 : w7.frozen? ⟨w.heap.size + 1, 4, none⟩ = false := hB7.free 4
             have z7 := hB7.lt
             have HB7 := hid hB7
             have HC7 := hid (HC5.out.keep hk57 (by omega))
             have HR7 := hid (HR5.out.keep hk57 (fun i _ h => .inr (by omega)))
             have HK7 := hid ((HK3.out.trans HK5.out (fun _ _ h => h)).trans hk57 (fun i hi h => by omega))
             have HO7 := hid ho7
             clear ho7 hg7 hw7 hk57 hB7))
        all_goals
          have HZ : Hid (RQs w rb Av m fin (p + 1) (w7.setCell ⟨w.heap.size + 1, 4, none⟩ (.slice A7 (p + 1) c7))) := hid (by
            have hk9 : Keep (· = w.heap.size + 1) w7 (w7.setCell ⟨w.heap.size + 1, 4, none⟩ (.slice A7 (p + 1) c7)) := (Keep.refl _ w7).put 4 _
            refine ⟨xs ++ [v], s5, A5, n5, c5, A7, p + 1, c7, by simp [HXL.out], Nat.le_refl _, ?_, ?_, ?_, ?_, ?_, by omega, ?_⟩
            · have := HO7.out.keep hk9 (fun i hi _ e => by omega)
              rw [List.map_append]; exact this
            · exact HB7.out.put 4 (.slice A7 (p + 1) c7)
            · exact HC7.out.keep hk9 (by omega)
            · exact HR7.out.keep hk9 (fun i _ e => .inr (by omega))
            · exact HK7.out.trans hk9 (fun i hi e => by omega)
            · by_cases he5 : s5.err = 0
              · refine .inl ⟨he5, rfl, ?_⟩
                have := HRD2.out
                rw [if_pos he5] at this
                exact this
              · refine .inr ⟨he5, ?_⟩
                have := HRD2.out
                rw [if_neg he5] at this
                exact this.symm)
          go_wp2
          go_roundw
          case rel => exact ⟨p + 1, by omega, by go_num, HZ.out⟩
          case measure => simp [RowKit.intOf]; omega
      · obtain rfl : p = m := by omega
        have hrd := HRD.out
        rw [Nat.sub_self] at hrd
        have HRD2 := hid hrd.symm
        clear hrd HRD
        go_wp2
        refine bodyPost_ret (v := .agg (Tm.cells ⟨4, 0, false, ⟨#[]⟩, L, p, cl, xs⟩).toArray) (by simp [results, Try.results13, go_sem, Tm.cells, y0, y1, y2, y3, y4]) rfl ?_
        refine ⟨A3, n3, c3, ⟨4, 0, false, ⟨#[]⟩, L, p, cl, xs⟩, rfl, by rw [HRD2.out]; rfl, ?_, ?_, HK3.out.trans (keep5 _ _ _ _ _ _ _) (fun i hi e => by omega)⟩
        · have h1 := (HO.out.keep (keep5 wr w.heap.size (.int .i64 4) (.int .i64 0) (.bool false) (.string ⟨#[]⟩) (.slice L p cl)) (fun i hi _ e => by omega))
          exact ⟨h1.sl (fun g hg hs => by omega)⟩
        · rw [HRD2.out]
          exact (HR.out.keep (keep5 _ _ _ _ _ _ _) (fun i _ e => .inr (by omega))).wide (fun _ _ h => .inl h)
    · have hfin : fin = ([], s3) := by
        rcases hor with h | h
        · exact absurd h.1 he
        · exact h.2
      have HF := hid hfin
      have he1 : (s3.err == 0) = false := by simpa using he
      have he2 : (s3.err != 0) = true := by simpa using he
      clear hor hfin he
      by_cases hlt : k < m
      · go_wp2
        refine bodyPost_ret (v := .agg (Tm.cells ⟨4, 0, false, ⟨#[]⟩, none, 0, 0, []⟩).toArray) (by simp [results, Try.results13, go_sem, Tm.cells, y0, y1, y2, y3, y4]) rfl ?_
        refine ⟨A3, n3, c3, ⟨4, 0, false, ⟨#[]⟩, none, 0, 0, []⟩, rfl, by rw [HF.out]; rfl, ⟨Sl.nil _ _ _ _⟩, ?_, HK3.out.trans (keep6 _ _ _ _ _ _ _ _ _) (fun i hi e => by omega)⟩
        rw [HF.out]
        exact (HR.out.keep (keep6 _ w.heap.size _ _ _ _ _ _ _) (fun i _ e => .inr (by omega))).wide (fun _ _ h => .inl h)
      · obtain rfl : k = m := by omega
        go_wp2
        refine bodyPost_ret (v := .agg (Tm.cells ⟨4, 0, false, ⟨#[]⟩, none, 0, 0, []⟩).toArray) (by simp [results, Try.results13, go_sem, Tm.cells, y0, y1, y2, y3, y4]) rfl ?_
        refine ⟨A3, n3, c3, ⟨4, 0, false, ⟨#[]⟩, none, 0, 0, []⟩, rfl, by rw [HF.out]; rfl, ⟨Sl.nil _ _ _ _⟩, ?_, HK3.out.trans (keep6 _ _ _ _ _ _ _ _ _) (fun i hi e => by omega)⟩
        rw [HF.out]
        exact (HR.out.keep (keep6 _ w.heap.size _ _ _ _ _ _ _) (fun i _ e => .inr (by omega))).wide (fun _ _ h => .inl h)
end
theorem get_any (w : World) (rb : Nat) (Av : Nat → Prop) (A : Option Addr) (n c : Nat) (s : RS) (h : Rq w rb Av A n c s) (hsz : s.rest.length ≤ 1000000000) (k : Int) (h0 : 0 ≤ k) (h4 : k ≤ 4) :
    Calls Try.prog 13 #[.pointer (some ⟨rb, 0, none⟩), .int .i64 k] w (TqPost w rb Av (getT k s).1 (getT k s).2) := by
  have hk : k = 0 ∨ k = 1 ∨ k = 2 ∨ k = 3 ∨ k = 4 := by omega
  rcases hk with rfl | rfl | rfl | rfl | rfl
  · exact get0_any w rb Av A n c s h hsz
  · exact get1_any w rb Av A n c s h hsz
  · exact get2_any w rb Av A n c s h hsz
  · exact get3_any w rb Av A n c s h hsz
  · exact get4_any w rb Av A n c s h hsz
end Go.Proofs.Ytohgclbgjdpggaa

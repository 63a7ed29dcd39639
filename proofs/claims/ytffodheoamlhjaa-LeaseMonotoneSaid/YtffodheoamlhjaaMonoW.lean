import Derived.Test.YtffodheoamlhjaaMono
namespace Go.Proofs.Ytffodheoamlhjaa
open Go.RowKit

/-- what is known inside a round: the box of the operation and the table -/
structure In (w0 wr w : World) (tb sb : Nat) (a : Ac) (L : List St) : Prop where
  box : Blk w wr.heap.size 47 a.cells.toArray
  tab : IsTable w tb sb L
  keep : Same w0 w

theorem In.step {w0 wr w w' : World} {tb sb : Nat} {a : Ac} {L L' : List St} (h : In w0 wr w tb sb a L) (hs : wr.heap.size ≠ sb) (h0 : w0.heap.size ≤ sb) (hk : Keep (· = sb) w w') (hT : IsTable w' tb sb L') : In w0 wr w' tb sb a L' :=
  ⟨h.box.keep hk hs, hT, h.keep.trans hk (fun i hi e => by omega)⟩
theorem In.same {w0 wr w w' : World} {tb sb : Nat} {a : Ac} {L : List St} (h : In w0 wr w tb sb a L) (hk : Same w w') : In w0 wr w' tb sb a L :=
  ⟨h.box.keep hk (fun f => f), h.tab.keep hk (fun f => f) (fun f => f), h.keep.then hk⟩

set_option maxRecDepth 100000 in
set_option maxHeartbeats 8000000 in
theorem leaseMonotone_walk (w : World) (B : Option Addr) (m d : Nat) (ops : List Ac) (hB : Sl w (fun _ => False) 6 B m (acFlat ops)) :
    Calls Try.prog 9 #[.slice B m d] w fun e w' => e = .returned (.bool true) ∧ Same w w' := by
  have hml : ops.length = m := by have := hB.len; rw [acFlat, flat_len Ac.cells 6 (fun _ => rfl)] at this; omega
  by_cases hm : 60 < m
  · clear hB hml
    go_enter Try.func9, Try.ntmps9
    go_wp2_with (go_at_call 11; refine (awake_any _).mono ?_; rintro e w' ⟨rfl, hk⟩)
    go_ret
    exact ⟨rfl, hk⟩
  · have hm' : m ≤ 60 := by omega
    have hn := new_any (w.alloc (.cells #[.int .i64 0, .int .i64 1, .int .i64 2] 3)) (some ⟨w.heap.size, 0, none⟩) 3 3 [0, 1, 2] 10 (fun _ => False) (Sl.of_blk (Blk.made w 3 #[.int .i64 0, .int .i64 1, .int .i64 2]) rfl (fun f => f)) (by omega) (by omega) rfl
    have K0 : Same w (w.alloc (.cells #[.int .i64 0, .int .i64 1, .int .i64 2] 3)) := (Keep.refl _ _).alloc _
    have HB := hid hB
    have hn := hid hn
    clear hm hB
    go_enter Try.func9, Try.ntmps9
    go_wp2_with fail
    refine hn.out.mono ?_
    rintro e w1 (⟨_, tb, sb, rfl, hb1, hb2, hT, hk⟩ | ⟨h, _⟩)
    · have K1 := K0.then hk
      have hlt : w.heap.size ≤ sb := Nat.le_trans K0.size hb2
      have HT := hid hT
      have HK := hid K1
      clear hT hk K1 K0 hn hb1 hb2
      go_wp2
      go_loopw [32] (fun i wr => ∃ (k : Nat) (L : List St), k ≤ m ∧ i = .int .i64 k ∧ IsTable wr tb sb L ∧ Eps L (1 + k) ∧ Same w wr) (fun i _ => m - (RowKit.intOf i).toNat)
      case atStart => exact ⟨0, _, by omega, rfl, HT.out, start_eps _ _, HK.out⟩
      case round =>
        obtain ⟨k, L, hkm, rfl, hTr, hE, hKr⟩ := hrel
        by_cases hkn : k < m
        · obtain ⟨a, ha⟩ : ∃ a, ops[k]? = some a := get_some (by omega)
          obtain ⟨b, off, rfl, hb, _, hr⟩ := HB.out.at_ (by omega)
          have hcell : ∀ j u, j < 6 → a.cells[j]? = some u → wr.cell? ⟨b, off + (k * 6 + j), none⟩ = some u := fun j u hj hu =>
            (hKr.cell (p := ⟨b, off + (k * 6 + j), none⟩) hb (fun f => f)).trans (hr (k * 6 + j) u (by rw [acFlat_get ops k j hj, ha]; exact hu))
          have q0 : wr.cell? ⟨b, off + k * 6, none⟩ = some (.int .i64 a.k) := hcell 0 _ (by omega) rfl
          have q1 : wr.cell? ⟨b, off + k * 6 + 1, none⟩ = some (.int .i64 a.t) := hcell 1 _ (by omega) rfl
          have q2 : wr.cell? ⟨b, off + k * 6 + 2, none⟩ = some (.int .i64 a.w) := hcell 2 _ (by omega) rfl
          have q3 : wr.cell? ⟨b, off + k * 6 + 3, none⟩ = some (.int .i64 a.e) := hcell 3 _ (by omega) rfl
          have q4 : wr.cell? ⟨b, off + k * 6 + 4, none⟩ = some (.int .i64 a.n) := hcell 4 _ (by omega) rfl
          have q5 : wr.cell? ⟨b, off + k * 6 + 5, none⟩ = some (.int .i64 a.l) := hcell 5 _ (by omega) rfl
          have hsb := hTr.row.lt
          have hI : In w wr (wr.alloc (.cells a.cells.toArray 47)) tb sb a L := ⟨Blk.made wr 47 _, hTr.keep ((Keep.refl (fun _ => False) _).alloc _) (fun f => f) (fun f => f), hKr.alloc _⟩
          have HI := hid hI
          clear hcell hr ha hTr hKr hI
          have hlt' := hlt
          obtain ⟨kk, t, ww, ep, nw, ln⟩ := a
          simp only at q0 q1 q2 q3 q4 q5
          have hsb : wr.heap.size ≠ sb := by omega
          go_wp2_with fail
          refine (checksum_any _ tb sb L HI.out.tab).mono ?_
          rintro e w2 ⟨rfl, hk2⟩
          have HI2 := hid (HI.out.same hk2)
          obtain ⟨b0, b1, b2, b3, b4, b5⟩ := Ac.facts HI2.out.box
          simp only at b0 b1 b2 b3 b4 b5
          have hz2 := HI2.out.box.lt
          obtain ⟨C, hC⟩ : ∃ C, ckR L = C := ⟨_, rfl⟩
          rw [hC]
          have Hck := hid hC
          clear hk2 hC
          go_wp2_with fail
          refine (last_any _ tb sb L HI2.out.tab t).mono ?_
          rintro e w3 ⟨rfl, hk3⟩
          have HI3 := hid (HI2.out.same hk3)
          clear b0 b1 b2 b3 b4 b5 hk3 q0 q1 q2 q3 q4 q5
          obtain ⟨b0, b1, b2, b3, b4, b5⟩ := Ac.facts HI3.out.box
          simp only at b0 b1 b2 b3 b4 b5
          by_cases hk0 : kk = 0
          · subst hk0
            have HM := hid (acq_mono hE (by omega) (by omega) t ww ep nw ln)
            have HE := hid (acq_eps hE (by omega) t ww ep nw ln)
            clear hE
            go_wp2_with fail
            refine (acq_any _ tb sb L HI3.out.tab t ww ep nw ln).mono ?_
            rintro e w4 ⟨rfl, hT4, hk4⟩
            have HI4 := hid (HI3.out.step hsb hlt hk4 hT4)
            clear hT4 hk4 b0 b1 b2 b3 b4 b5
            generalize (acqR L t ww ep nw ln).1 = L' at *
            generalize (acqR L t ww ep nw ln).2.2 = f at *
            obtain ⟨b0, b1, b2, b3, b4, b5⟩ := Ac.facts HI4.out.box
            simp only at b0 b1 b2 b3 b4 b5
            go_wp2_with fail
            refine (last_any _ tb sb L' HI4.out.tab t).mono ?_
            rintro e w5 ⟨rfl, hk5⟩
            have HI5 := hid (HI4.out.same hk5)
            have hck := hid (fun (h : ¬ f = 0) => show ckR L' = C by rw [HM.out.f1 h]; exact Hck.out)
            obtain ⟨e1, u1, w1', e2, fx, lo, hi⟩ := HM.out
            clear fx
            have HS := hid (checksum_any w5 tb sb L' HI5.out.tab)
            clear hk5 b0 b1 b2 b3 b4 b5 HM
            generalize lastR L t = o at *
            generalize lastR L' t = n at *
            obtain ⟨o1, o2, o3⟩ := o
            obtain ⟨n1, n2, n3⟩ := n
            simp only at e1 u1 w1' e2 lo hi
            have e2' : ¬ o2 + 1 < n2 := by omega
            by_cases hn : n2 = o2
            · have hw := w1' hn
              subst hn hw
              clear w1'
              by_cases hf : f = 0
              · subst hf
                go_wp2
                go_roundw
                case rel => exact ⟨k + 1, L', by omega, by go_num, HI5.out.tab, HE.out.more (by omega), HI5.out.keep⟩
                case measure => simp [RowKit.intOf]; omega
              · have hf' : (f == 0) = false := by simpa using hf
                have HS' := HS.out
                rw [hck.out hf] at HS'
                have HS' := hid HS'
                have hfn : (f != 0) = true := by simpa using hf
                go_wp2_with (go_at_call 20; refine HS'.out.mono ?_; rintro e w6 ⟨rfl, hk6⟩)
                go_roundw
                case rel => exact ⟨k + 1, L', by omega, by go_num, (HI5.out.same hk6).tab, HE.out.more (by omega), (HI5.out.same hk6).keep⟩
                case measure => simp [RowKit.intOf]; omega
            · have hn' : (n2 == o2) = false := by simpa using hn
              clear w1' hn
              by_cases hf : f = 0
              · subst hf
                go_wp2
                go_roundw
                case rel => exact ⟨k + 1, L', by omega, by go_num, HI5.out.tab, HE.out.more (by omega), HI5.out.keep⟩
                case measure => simp [RowKit.intOf]; omega
              · have hf' : (f == 0) = false := by simpa using hf
                have HS' := HS.out
                rw [hck.out hf] at HS'
                have HS' := hid HS'
                have hfn : (f != 0) = true := by simpa using hf
                go_wp2_with (go_at_call 20; refine HS'.out.mono ?_; rintro e w6 ⟨rfl, hk6⟩)
                go_roundw
                case rel => exact ⟨k + 1, L', by omega, by go_num, (HI5.out.same hk6).tab, HE.out.more (by omega), (HI5.out.same hk6).keep⟩
                case measure => simp [RowKit.intOf]; omega
          · by_cases hk1 : kk = 1
            · subst hk1
              have HM := hid (ren_mono hE (by omega) t ww ep nw ln)
              have HE := hid ((ren_eps hE t ww ep nw ln).more (show 1 + (k : Int) ≤ 1 + k + 1 by omega))
              clear hE
              go_wp2_with fail
              refine (ren_any _ tb sb L HI3.out.tab t ww ep nw ln).mono ?_
              rintro e w4 ⟨rfl, hT4, hk4⟩
              have HI4 := hid (HI3.out.step hsb hlt hk4 hT4)
              clear hT4 hk4 b0 b1 b2 b3 b4 b5
              generalize (renR L t ww ep nw ln).1 = L' at *
              generalize (renR L t ww ep nw ln).2 = f at *
              obtain ⟨b0, b1, b2, b3, b4, b5⟩ := Ac.facts HI4.out.box
              simp only at b0 b1 b2 b3 b4 b5
              go_wp2_with fail
              refine (last_any _ tb sb L' HI4.out.tab t).mono ?_
              rintro e w5 ⟨rfl, hk5⟩
              have HI5 := hid (HI4.out.same hk5)
              have hck := hid (fun (h : ¬ f = 0) => show ckR L' = C by rw [HM.out.f1 h]; exact Hck.out)
              obtain ⟨e1, u1, w1', e2, fx, lo, hi⟩ := HM.out
              clear fx
              have HS := hid (checksum_any w5 tb sb L' HI5.out.tab)
              clear hk5 b0 b1 b2 b3 b4 b5 HM
              generalize lastR L t = o at *
              generalize lastR L' t = n at *
              obtain ⟨o1, o2, o3⟩ := o
              obtain ⟨n1, n2, n3⟩ := n
              simp only at e1 u1 w1' e2 lo hi
              have e2' : ¬ o2 + 1 < n2 := by omega
              by_cases hn : n2 = o2
              · have hw := w1' hn
                subst hn hw
                clear w1'
                by_cases hf : f = 0
                · subst hf
                  go_wp2
                  go_roundw
                  case rel => exact ⟨k + 1, L', by omega, by go_num, HI5.out.tab, HE.out.more (by omega), HI5.out.keep⟩
                  case measure => simp [RowKit.intOf]; omega
                · have hf' : (f == 0) = false := by simpa using hf
                  have HS' := HS.out
                  rw [hck.out hf] at HS'
                  have HS' := hid HS'
                  have hfn : (f != 0) = true := by simpa using hf
                  go_wp2_with (go_at_call 20; refine HS'.out.mono ?_; rintro e w6 ⟨rfl, hk6⟩)
                  go_roundw
                  case rel => exact ⟨k + 1, L', by omega, by go_num, (HI5.out.same hk6).tab, HE.out.more (by omega), (HI5.out.same hk6).keep⟩
                  case measure => simp [RowKit.intOf]; omega
              · have hn' : (n2 == o2) = false := by simpa using hn
                clear w1' hn
                by_cases hf : f = 0
                · subst hf
                  go_wp2
                  go_roundw
                  case rel => exact ⟨k + 1, L', by omega, by go_num, HI5.out.tab, HE.out.more (by omega), HI5.out.keep⟩
                  case measure => simp [RowKit.intOf]; omega
                · have hf' : (f == 0) = false := by simpa using hf
                  have HS' := HS.out
                  rw [hck.out hf] at HS'
                  have HS' := hid HS'
                  have hfn : (f != 0) = true := by simpa using hf
                  go_wp2_with (go_at_call 20; refine HS'.out.mono ?_; rintro e w6 ⟨rfl, hk6⟩)
                  go_roundw
                  case rel => exact ⟨k + 1, L', by omega, by go_num, (HI5.out.same hk6).tab, HE.out.more (by omega), (HI5.out.same hk6).keep⟩
                  case measure => simp [RowKit.intOf]; omega
            · have hk0' : (kk == 0) = false := by simpa using hk0
              have hk1' : (kk == 1) = false := by simpa using hk1
              clear hk0 hk1
              have HM := hid (rel_mono hE (by omega) t ww ep nw)
              have HE := hid ((rel_eps hE t ww ep nw).more (show 1 + (k : Int) ≤ 1 + k + 1 by omega))
              clear hE
              go_wp2_with fail
              refine (rel_any _ tb sb L HI3.out.tab t ww ep nw).mono ?_
              rintro e w4 ⟨rfl, hT4, hk4⟩
              have HI4 := hid (HI3.out.step hsb hlt hk4 hT4)
              clear hT4 hk4 b0 b1 b2 b3 b4 b5
              generalize (relR L t ww ep nw).1 = L' at *
              generalize (relR L t ww ep nw).2 = f at *
              obtain ⟨b0, b1, b2, b3, b4, b5⟩ := Ac.facts HI4.out.box
              simp only at b0 b1 b2 b3 b4 b5
              go_wp2_with fail
              refine (last_any _ tb sb L' HI4.out.tab t).mono ?_
              rintro e w5 ⟨rfl, hk5⟩
              have HI5 := hid (HI4.out.same hk5)
              have hck := hid (fun (h : ¬ f = 0) => show ckR L' = C by rw [HM.out.f1 h]; exact Hck.out)
              obtain ⟨e1, u1, w1', e2, fx, lo, hi⟩ := HM.out
              clear fx
              have HS := hid (checksum_any w5 tb sb L' HI5.out.tab)
              clear hk5 b0 b1 b2 b3 b4 b5 HM
              generalize lastR L t = o at *
              generalize lastR L' t = n at *
              obtain ⟨o1, o2, o3⟩ := o
              obtain ⟨n1, n2, n3⟩ := n
              simp only at e1 u1 w1' e2 lo hi
              have e2' : ¬ o2 + 1 < n2 := by omega
              by_cases hn : n2 = o2
              · have hw := w1' hn
                subst hn hw
                clear w1'
                by_cases hf : f = 0
                · subst hf
                  go_wp2
                  go_roundw
                  case rel => exact ⟨k + 1, L', by omega, by go_num, HI5.out.tab, HE.out.more (by omega), HI5.out.keep⟩
                  case measure => simp [RowKit.intOf]; omega
                · have hf' : (f == 0) = false := by simpa using hf
                  have HS' := HS.out
                  rw [hck.out hf] at HS'
                  have HS' := hid HS'
                  have hfn : (f != 0) = true := by simpa using hf
                  go_wp2_with (go_at_call 20; refine HS'.out.mono ?_; rintro e w6 ⟨rfl, hk6⟩)
                  go_roundw
                  case rel => exact ⟨k + 1, L', by omega, by go_num, (HI5.out.same hk6).tab, HE.out.more (by omega), (HI5.out.same hk6).keep⟩
                  case measure => simp [RowKit.intOf]; omega
              · have hn' : (n2 == o2) = false := by simpa using hn
                clear w1' hn
                by_cases hf : f = 0
                · subst hf
                  go_wp2
                  go_roundw
                  case rel => exact ⟨k + 1, L', by omega, by go_num, HI5.out.tab, HE.out.more (by omega), HI5.out.keep⟩
                  case measure => simp [RowKit.intOf]; omega
                · have hf' : (f == 0) = false := by simpa using hf
                  have HS' := HS.out
                  rw [hck.out hf] at HS'
                  have HS' := hid HS'
                  have hfn : (f != 0) = true := by simpa using hf
                  go_wp2_with (go_at_call 20; refine HS'.out.mono ?_; rintro e w6 ⟨rfl, hk6⟩)
                  go_roundw
                  case rel => exact ⟨k + 1, L', by omega, by go_num, (HI5.out.same hk6).tab, HE.out.more (by omega), (HI5.out.same hk6).keep⟩
                  case measure => simp [RowKit.intOf]; omega
        · go_wp2_with (go_at_call 11; refine (awake_any _).mono ?_; rintro e w' ⟨rfl, hk⟩)
          go_ret
          exact ⟨rfl, hKr.then hk⟩
    · exact absurd h (by decide)
end Go.Proofs.Ytffodheoamlhjaa

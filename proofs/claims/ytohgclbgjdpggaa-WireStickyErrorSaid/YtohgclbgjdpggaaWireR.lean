import Derived.Test.YtohgclbgjdpggaaWireQ
namespace Go.Proofs.Ytohgclbgjdpggaa
open Go.RowKit

theorem bcells_ints {l : List Int} (h : ∀ a ∈ l, 0 ≤ a ∧ a ≤ 255) : l.map (Value.int .u8) = bcells (l.map fun a => a.toNat.toUInt8) := by
  simp only [bcells, List.map_map]
  refine List.map_congr_left fun a ha => ?_
  have := h a ha
  simp only [Function.comp_def, bv, u8_small (show a.toNat < 256 by omega)]
  congr 1; omega

set_option maxRecDepth 100000 in
set_option maxHeartbeats 8000000 in
theorem canonical_loop (w0 : World) (Aa : Option Addr) (n0 c0 : Nat) (bs : List UInt8) (hB : Sl w0 (fun _ => False) 1 Aa n0 (bcells bs)) (hn : n0 ≤ 300) (Ka : Option Addr) (m d : Nat) (ks : List UInt8) (hKs : Sl w0 (fun _ => False) 1 Ka m (bcells ks)) (hm : m ≤ 100) :
    Calls Try.prog 7 #[.slice Aa n0 c0, .slice Ka m d] w0 fun e w' => e = .returned (.bool true) ∧ Same w0 w' := by
  have hbl : bs.length = n0 := by have := hB.len; simpa [bcells] using this
  have hkl : ks.length = m := by have := hKs.len; simpa [bcells] using this
  have HBL := hid hbl
  have HKL := hid hkl
  have HB := hid hB
  have HKS := hid hKs
  clear hbl hkl hB hKs
  go_enter Try.func7, Try.ntmps7
  go_wp2_with fail
  refine (awake_any w0).mono ?_
  rintro e w3 ⟨rfl, hk3⟩
  have hkb : Same w3 (w3.alloc (.cells #[] 5)) := (Keep.refl _ w3).alloc _
  have HSR := hid ((HB.out.same hk3).src hkb)
  have HKB := hid hkb
  have HK3 := hid hk3
  clear hk3 hkb
  go_wp2_with (
    at_builtin
    refine EBy.law (.tmp 22) (.tmp 23) (.slice (some ⟨w3.heap.size, 0, none⟩) 0 0) Aa n0 c0 rfl rfl rfl rfl w3.heap.size 0 [] (bcells bs) (Own.lit0 w3 5 1) (by rw [bcells_len, HBL.out]; omega) HSR.out (bcells_one _) (by omega) (by unfold maxLen; omega) (by simp) ?_
    intro A4 c4 w4 hown hg
    simp only [Nat.zero_add, List.nil_append] at hown
    have hk2 : Same w3 w4 := HKB.out.app (Own.lit0 w3 5 1) hg (fun g h1 h2 => by omega)
    have HOW := hid hown
    have HK4 := hid hk2
    clear hg hown hk2)
  refine (newReader_any w4 (fun _ => False) A4 n0 c4 bs (HOW.out.sl (fun _ _ f => f)) (by omega)).mono ?_
  rintro e w5 ⟨rb, A5, c5, rfl, hrb, hR, hk5⟩
  have HK5 := hid ((HK3.out.then HK4.out).then hk5)
  have hrbl := hR.top.lt
  have hrw : w0.heap.size ≤ rb := by have := HK3.out.size; have := HK4.out.size; omega
  have HI : Hid (CanI w0 rb w5.heap.size bs 0 (.slice none 0 0) w5) := hid ⟨[], none, 0, ⟨bs, 0⟩, A5, bs.length, c5, rfl, Own.nil _ _ _ _, rfl, by simp, by simp [putAll], Nat.le_refl _,
    hR.wide (fun i hi hs => by omega), HK5.out, Nat.le_refl _⟩
  generalize hbase : w5.heap.size = base at *
  have Hbase := hid hbase
  clear hR hk5 HOW HKB HSR hbase
  go_wp2
  go_loopw [6, 30] (fun lv i wr => ∃ k : Nat, k ≤ m ∧ i = .int .i64 k ∧ CanI w0 rb base bs k lv wr) (fun _ i _ => m - (RowKit.intOf i).toNat)
  case atStart => exact ⟨0, by omega, rfl, HI.out⟩
  case round =>
    obtain ⟨k, hkm, rfl, xs, L, cl, s, A1, n1, c1, rfl, hO, hxl, hx, hbs, hsl, hR, hK, hbw⟩ := hrel
    have HO := hid hO
    have HXL := hid hxl
    have HX := hid hx
    have HBS := hid hbs
    have HR := hid hR
    have HK := hid hK
    have hrbl2 := hR.top.lt
    have hol := hO.lt
    have hob := hO.block
    have HOLT := hid hol
    have HOB := hid hob
    clear hO hxl hx hbs hR hK hol hob
    by_cases hlt : k < m
    · obtain ⟨kb, hkb⟩ := get_some (l := ks) (k := k) (by have := HKL.out; omega)
      obtain ⟨bk, offk, rfl, hbk, _, hrk⟩ := HKS.out.at_ (by omega)
      have q0 : wr.cell? ⟨bk, offk + k, none⟩ = some (.int .u8 kb.toNat) := (HK.out.cell (p := ⟨bk, offk + k, none⟩) hbk (fun f => f)).trans (hrk k _ (by simp [bcells, hkb, bv]))
      have hkb2 := kb.toNat_lt
      clear hkb hrk
      generalize kb.toNat = kn at *
      have HC := hid (read_any wr rb (fun i => base ≤ i) A1 n1 c1 s HR.out (by have := HBL.out; omega) ((kn : Int) % 5) (by omega) (by omega))
      have hglen := getT_len ((kn : Int) % 5) s
      have HOKT := hid (getT_ok ((kn : Int) % 5) (by omega) (by omega) s (by have := HBL.out; omega))
      have HCAN : Hid ((getT ((kn : Int) % 5) s).2.err = 0 → bs = putAll (xs.map Tm.pt) ++ putT (getT ((kn : Int) % 5) s).1 ++ (getT ((kn : Int) % 5) s).2.rest) := hid (by
        intro he
        by_cases hs : s.err = 0
        · have h1 := HBS.out hs
          rw [rs_of hs] at he ⊢
          have h2 := (getT_canon (k := (kn : Int) % 5) (by omega) (by omega) he).2
          rw [List.append_assoc, ← h2]; exact h1
        · rw [getT_err _ hs] at he; exact absurd he hs)
      generalize getT ((kn : Int) % 5) s = q at *
      obtain ⟨t, s2⟩ := q
      simp only at HC hglen HOKT HCAN
      go_wp2_with fail
      refine HC.out.mono ?_
      rintro e w6 ⟨A6, n6, c6, x, rfl, hxp, hxo, hR6, hk6⟩
      have hka : Same w6 (w6.alloc (.cells x.cells.toArray 33)) := (Keep.refl _ w6).alloc _
      have HXP := hid hxp
      have HXO := hid hxo
      have HR6 := hid hR6
      have HK6 := hid hk6
      have HKA := hid hka
      have hsz6 := hk6.size
      have HOA := hid (World.ownsRow.alloc (HO.out.keep hk6 (fun i hi _ e => by omega)) (.cells x.cells.toArray 33))
      have HSA := hid (fun (_ : 0 < 1) => (⟨_, rfl, src_new (w := w6) (t := 33) (cs := x.cells.toArray) (news := x.cells) rfl⟩ : ∃ ad, some (⟨w6.heap.size, 0, none⟩ : Addr) = some ad ∧ ∀ j u, x.cells[j]? = some u → (w6.alloc (.cells x.cells.toArray 33)).cell? (ad.add j) = some u))
      have HON := hid (show ∀ u ∈ x.cells, u.oneCell' = true by intro u hu; exact tFlat_one [x] u (by simpa [tFlat] using hu))
      clear hxp hxo hR6 hk6 hka HC
      obtain ⟨kk, nn, bo, st, C, cm, cc, l⟩ := x
      simp only [Tm.cells] at HKA HOA HSA HON ⊢
      have hbase2 := HKA.out.size
      go_wp2_with (
        at_builtin
        refine ETh.law2 (.tmp 34) (.tmp 40) (.slice L k cl) (some ⟨w6.heap.size, 0, none⟩) 1 1 rfl rfl rfl rfl base k (tFlat xs) [.int .i64 kk, .int .i64 nn, .bool bo, .string st, .slice C cm cc] (k + 1) _ rfl rfl HOA.out rfl HSA.out HON.out (by omega) (by unfold maxLen; omega) (by simp; omega) ?_
        intro A' c' w7 ho hg hw
        have HO7 := hid ho
        have HG7 := hid hg
        have HW7 := hid hw
        clear ho hg hw)
      go_roundw
      case rel =>
        have hk67 : Keep (fun i => (Value.slice L k cl).ownBlock = some i) w6 w7 := (HKA.out.wide (fun _ _ f => f.elim)).grown HG7.out (fun g e _ => e)
        have hown7 : (Value.slice A' (k + 1) c').ownBlock = A'.map (·.block) := by cases A' <;> rfl
        have hblk : ∀ i, (Value.slice A' (k + 1) c').ownBlock = some i → (Value.slice L k cl).ownBlock = some i ∨ w6.heap.size < i + 1 := by
          intro i e
          rw [hown7] at e
          rcases HW7.out with h | h
          · exact .inl (by rw [← h, e])
          · rw [h] at e; injection e with e; rw [World.size_alloc] at e; exact .inr (by omega)
        have hk7 : Keep (fun i => i = rb ∨ (Value.slice L k cl).ownBlock = some i) wr w7 := (HK6.out.wide (fun i _ e => .inl e)).trans hk67 (fun i _ h => .inr h)
        refine ⟨k + 1, by omega, by go_num, xs ++ [⟨kk, nn, bo, st, C, cm, cc, l⟩], A', c', s2, A6, n6, c6, rfl, ?_, by simp [HXL.out], ?_, ?_, by omega, ?_, ?_, ?_⟩
        · rw [tFlat_snoc]; exact HO7.out
        · intro z hz
          rcases List.mem_append.1 hz with hz | hz
          · obtain ⟨h1, h2⟩ := HX.out z hz
            refine ⟨?_, h2⟩
            have h3 := h1.keep hk7 (fun i _ h => h)
            have hzl : ∀ g, (Value.slice L k cl).ownBlock = some g → g < wr.heap.size := HOLT.out
            refine ⟨h3.sl.len, fun h0 => ?_⟩
            obtain ⟨b, off, e1, e2, e3, e4⟩ := h3.sl.at_ h0
            obtain ⟨b', off', e1', e2', _⟩ := h1.sl.at_ h0
            rw [e1'] at e1
            injection e1 with e1
            injection e1 with e1
            subst e1
            refine ⟨b', off', e1', Nat.lt_of_lt_of_le e2' hk7.size, fun hs => ?_, ?_⟩
            · rcases hs with hs | hs
              · exact e3 (.inl hs)
              · rcases hblk b' hs with h | h
                · exact e3 (.inr h)
                · omega
            · obtain ⟨b2, off2, e5, _, _, e6⟩ := h3.sl.at_ h0
              rw [e1'] at e5
              injection e5 with e5
              injection e5 with e5 e5'
              subst e5 e5'
              exact e6
          · simp only [List.mem_singleton] at hz
            subst hz
            refine ⟨?_, by rw [HXP.out]; exact HOKT.out⟩
            have h3 : TmOk w6 (fun i => i = rb ∨ (Value.slice L k cl).ownBlock = some i ∨ w6.heap.size ≤ i) ⟨kk, nn, bo, st, C, cm, cc, l⟩ := HXO.out.wide (fun i hi hs => by
              rcases hs with hs | hs | hs
              · omega
              · exact HOLT.out i hs
              · omega)
            exact (h3.keep hk67 (fun i _ h => .inr (.inl h))).wide (fun i hi hs => by
              rcases hs with hs | hs
              · exact .inl hs
              · rcases hblk i hs with h | h
                · exact .inr (.inl h)
                · exact .inr (.inr (by omega)))
        · intro he
          rw [List.map_append, List.map_cons, List.map_nil, putAll_snoc, HXP.out]
          exact HCAN.out he
        · exact (HR6.out.keep hk67 (fun i _ e => HOB.out i e))
        · exact HK.out.trans hk7 (fun i hi hs => by
            rcases hs with hs | hs
            · omega
            · have := HOB.out i hs; have := Hbase.out; have := HK5.out.size; omega)
        · have := hk7.size; omega
      case measure => simp [RowKit.intOf]; omega
    · obtain rfl : k = m := by omega
      have HF := hid (fun W (hk : Same wr W) => finish_any W rb (fun i => base ≤ i) A1 n1 c1 s (HR.out.same hk) (by have := HBL.out; omega))
      have HCV := hid (fun W (hk : Same wr W) => conv_str W (fun _ => False) Aa n0 c0 bs (HB.out.same (HK.out.then hk)))
      have HKd := hid ((Keep.refl (fun _ => False) wr).drew)
      have hs0 : Hid ((convert 22 9 (.slice Aa n0 c0)).run Try.prog wr.drew = .ok (.string (strOf bs)) wr.drew) := hid (HCV.out _ HKd.out)
      by_cases hE : endE s = 0
      · obtain ⟨he1, he2⟩ := endE_ok hE
        have hbeq : bs = putAll (xs.map Tm.pt) := by
          have := HBS.out he1
          rw [he2, List.append_nil] at this
          exact this
        rw [hE] at HF
        have hlen : (putAll (xs.map Tm.pt)).length ≤ 10000000 := by rw [← hbeq]; have := HBL.out; omega
        have HALL := hid (fun W (hk : Same wr W) => all_any W (fun _ => False) L k cl xs ⟨((HO.out.sl (Av := fun _ => False) (fun _ _ f => f)).same hk), fun x hx => (((HX.out x hx).1.wide (Av' := fun _ => False) (fun _ _ f => f.elim)).same hk), fun x hx => (HX.out x hx).2⟩ (by omega) hlen)
        rw [← hbeq] at HALL
        clear hE he1 he2 hbeq hlen
        go_wp2
        have hs0' := hs0.out
        go_region_law (first
          | (go_simp
             go_at_call 14; (with_reducible refine (HF.out _ HKd.out).mono ?_); rintro e w8 ⟨rfl, rfl⟩)
          | (go_simp
             go_at_call 17; (with_reducible refine (HALL.out _ HKd.out).mono ?_); rintro e w9 ⟨g, rfl, hg, hgb, hk9⟩
             have hcv9 := conv_str w9 (fun _ => False) (some ⟨g, 0, none⟩) bs.length bs.length bs (Sl.of_blk hgb (by simp) (fun f => f))
             have hs9 : (convert 22 9 (.slice Aa n0 c0)).run Try.prog w9 = .ok (.string (strOf bs)) w9 := HCV.out _ (HKd.out.then hk9)
             have HK9 := hid (HK.out.then (HKd.out.then hk9))
             clear hg hgb hk9))
        all_goals
          go_wp2
          go_ret
          exact ⟨rfl, HK9.out⟩
      · have hE' : (endE s != 0) = true := by simpa using hE
        generalize endE s = E at *
        clear hE
        have HQ := hid (fun nq => (show Calls Try.prog 14 #[.pointer (some ⟨rb, 0, none⟩)] (wr.drewN nq) fun e w' => e = .returned (.int .i64 E) ∧ w' = wr.drewN nq from (HF.out _ ((Keep.refl (fun _ => False) wr).drewN nq)).mono fun e w' h => ⟨h.1, h.2.symm⟩))
        go_wp2
        go_quiet ((go_at_call 14; exact Calls.quiet_of_same (HQ.out _)))
        all_goals
          go_wp2
          go_ret
          exact ⟨rfl, HK.out.drewN _⟩
theorem u8_wf {a : Int} (h : (Lit.int .u8 a).wf = true) : 0 ≤ a ∧ a ≤ 255 := by
  simp only [Lit.wf, Bool.and_eq_true, decide_eq_true_eq] at h
  have e1 : IntKind.u8.min = 0 := by rfl
  have e2 : IntKind.u8.max = 255 := by rfl
  omega
set_option maxHeartbeats 2000000 in
theorem wireCanonical_any (w : World) (Aa : Option Addr) (n c : Nat) (l : List Int) (hB : Sl w (fun _ => False) 1 Aa n (l.map (.int .u8))) (hl : ∀ a ∈ l, (Lit.int .u8 a).wf = true) (Ka : Option Addr) (m d : Nat) (k : List Int) (hK : Sl w (fun _ => False) 1 Ka m (k.map (.int .u8))) (hk : ∀ a ∈ k, (Lit.int .u8 a).wf = true) :
    Calls Try.prog 7 #[.slice Aa n c, .slice Ka m d] w fun e w' => e = .returned (.bool true) ∧ Same w w' := by
  rw [bcells_ints (fun a ha => u8_wf (hl a ha))] at hB
  rw [bcells_ints (fun a ha => u8_wf (hk a ha))] at hK
  by_cases hn : 300 < n
  · clear hB hK hl hk
    go_enter Try.func7, Try.ntmps7
    go_wp2_with fail
    refine (awake_any w).mono ?_
    rintro e w3 ⟨rfl, hk3⟩
    go_wp2_with fail
    refine (awake_any w3).mono ?_
    rintro e w4 ⟨rfl, hk4⟩
    go_wp2
    go_ret
    exact ⟨rfl, hk3.then hk4⟩
  · by_cases hm : 100 < m
    · clear hB hK hl hk
      go_enter Try.func7, Try.ntmps7
      go_wp2_with fail
      refine (awake_any w).mono ?_
      rintro e w3 ⟨rfl, hk3⟩
      go_wp2_with fail
      refine (awake_any w3).mono ?_
      rintro e w4 ⟨rfl, hk4⟩
      go_wp2
      go_ret
      exact ⟨rfl, hk3.then hk4⟩
    · exact canonical_loop w Aa n c _ hB (by omega) Ka m d _ hK (by omega)
end Go.Proofs.Ytohgclbgjdpggaa

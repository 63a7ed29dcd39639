import Derived.Test.YtohgclbgjdpggaaWireT
namespace Go.Proofs.Ytohgclbgjdpggaa
open Go.RowKit

theorem takeO {P : Program} {md : Region.Mode} {ops : Array Oper} {Q : Exit → Act → World → Prop} {S : World → Prop} {i : Nat} {oi : Oper} {v : Value} {fuel : Nat} {listed : Array Bool} {a : Act} {w : World}
    (hs : Region.noSelect ops = true) (hf : Region.free md ops listed i = true) (hr : (Region.ready md ops listed).contains i = true) (hQ : ∀ c a d v w, Q (.panic c) (Act.put a d v) w → Q (.panic c) a w) (hi : ops[i]? = some oi) (hy : YieldsIf P ops S oi v a) (hS : S w)
    (h : wpAnyH P md ops Q S fuel (listed.setIfInBounds i true) (a.put oi.dst v) w) : wpAnyH P md ops Q S (fuel + 1) listed a w := wpAnyH_take hi hs hf hr (fun c a w h => hQ c a _ _ w h) hy hS h

/-! ## Reading what was cut -/
def lenT (l : List Tg) (k : Nat) : Nat := (putAll (l.take k)).length
def truS (l : List Tg) (cut k : Nat) : RS := if lenT l k ≤ cut then ⟨(putAll (l.drop k)).take (cut - lenT l k), 0⟩ else ⟨[], 11⟩
theorem lenT_next {l : List Tg} {k : Nat} {t : Tg} (h : l[k]? = some t) : lenT l (k + 1) = lenT l k + (putT t).length := by
  unfold lenT
  rw [take_snoc h, putAll_snoc, List.length_append]
theorem truS_in {l : List Tg} {cut k : Nat} {t : Tg} (h : l[k]? = some t) (ht : OkT t) (hc : lenT l (k + 1) ≤ cut) : getT t.k (truS l cut k) = (onlyT t, truS l cut (k + 1)) := by
  have hn := lenT_next h
  unfold truS
  rw [if_pos (by omega), if_pos hc, putAll_drop h]
  rcases take_app (putT t) (putAll (l.drop (k + 1))) (cut - lenT l k) with ⟨h1, _⟩ | ⟨h1, h2⟩
  · omega
  · rw [h2, getT_put ht, show cut - lenT l k - (putT t).length = cut - lenT l (k + 1) by omega]
theorem truS_out {l : List Tg} {cut k : Nat} {t : Tg} (h : l[k]? = some t) (ht : OkT t) (hc : cut < lenT l (k + 1)) : getT t.k (truS l cut k) = (zeroT t.k, truS l cut (k + 1)) := by
  have hn := lenT_next h
  unfold truS
  rw [if_neg (c := lenT l (k + 1) ≤ cut) (by omega)]
  by_cases h0 : lenT l k ≤ cut
  · rw [if_pos h0, putAll_drop h]
    rcases take_app (putT t) (putAll (l.drop (k + 1))) (cut - lenT l k) with ⟨h1, h2⟩ | ⟨h1, _⟩
    · rw [h2, getT_cut ht h1]
    · omega
  · rw [if_neg h0, getT_err _ (by simp)]
theorem truS_len (l : List Tg) (cut k : Nat) : (truS l cut k).rest.length ≤ cut := by
  unfold truS
  split
  · simp; omega
  · simp
theorem truS_end {l : List Tg} {cut k : Nat} (hk : l.length ≤ k) (hc : cut < (putAll l).length) : truS l cut k = ⟨[], 11⟩ := by
  unfold truS lenT
  rw [List.take_of_length_le hk, if_neg (by omega)]
theorem truS_zero (l : List Tg) (cut : Nat) : truS l cut 0 = ⟨(putAll l).take cut, 0⟩ := by simp [truS, lenT, putAll]

/-- the reader behind k values -/
def TruI (w : World) (rb : Nat) (l : List Tg) (cut k : Nat) (wr : World) : Prop :=
  ∃ A n c, Rd wr rb (fun _ => False) A n c (truS l cut k) ∧ Same w wr

set_option maxRecDepth 100000 in
set_option maxHeartbeats 16000000 in
theorem wireTruncated_walk (w : World) (B : Option Addr) (m d : Nat) (xs : List Tm) (h : Tr w (fun _ => False) B m xs) (hm : m ≤ 281474976710656) (cut : Int) (hc0 : -9223372036854775808 ≤ cut) (hc1 : cut ≤ 9223372036854775807) :
    Calls Try.prog 6 #[.slice B m d, .int .i64 cut] w fun e w' => e = .returned (.bool true) ∧ Same w w' := by
  have HT := hid h
  have HF := hid (fun W (hk : Same w W) => few_any W (fun _ => False) B m d xs (h.same hk) hm)
  clear h
  by_cases hf : fewB (xs.map Tm.pt) = true
  · obtain ⟨hts, hsum, hm4⟩ := HT.out.ts hf
    rw [hf] at HF
    have hall : (putAll (xs.map Tm.pt)).length ≤ 10000 := by
      have := putAll_small (xs.map Tm.pt) (by intro t ht; simp only [List.mem_map] at ht; obtain ⟨x, hx, rfl⟩ := ht; exact hts.ok x hx)
      omega
    have H := hid hts
    have HA := hid (fun W (hk : Same w W) => all_any W (fun _ => False) B m d xs (hts.same hk) (by omega) (by omega))
    have hlm := hts.len
    have HLM := hid hlm
    clear hf hts hsum HT hlm
    generalize hbs : putAll (xs.map Tm.pt) = bs at *
    have HBS := hid hbs
    generalize hbl : bs.length = bl at *
    have HBL := hid hbl
    clear hbs hbl
    by_cases hcut : 0 ≤ cut ∧ cut < bl
    · obtain ⟨hq0, hq1⟩ := hcut
      obtain ⟨ct, rfl⟩ := Int.eq_ofNat_of_zero_le hq0
      have hct : ct < bl := by omega
      have hct2 : ct ≤ bl := by omega
      clear hc0 hc1 hq0 hq1
      go_enter Try.func6, Try.ntmps6
      go_wp2_with fail
      refine (awake_any w).mono ?_
      rintro e w1 ⟨rfl, hk1⟩
      have HF1 := hid (HF.out w1 hk1)
      have HK1 := hid hk1
      clear hk1 HF
      go_wp2_with fail
      refine HF1.out.mono ?_
      rintro e w2 ⟨rfl, hk2⟩
      have HK2 := hid (HK1.out.then hk2)
      have HA2 := hid (HA.out w2 HK2.out)
      clear hk2 HF1 HA
      go_wp2_with fail
      refine HA2.out.mono ?_
      rintro e w3 ⟨g, rfl, hg, hB, hk3⟩
      rw [HBL.out]
      have HK3 := hid (HK2.out.then hk3)
      have hkb : Same w3 (w3.alloc (.cells #[] 5)) := (Keep.refl _ w3).alloc _
      have hsl : Sl w3 (fun _ => False) 1 (some ⟨g, 0, none⟩) bl (bcells bs) := Sl.of_blk (Av := fun _ => False) (size := 1) (n := bl) hB (by simp [HBL.out]) (fun f => f)
      have hst := hsl.take ct hct2
      rw [Nat.mul_one, show (bcells bs).take ct = bcells (bs.take ct) by simp [bcells, List.map_take]] at hst
      have HSR := hid (hst.src hkb)
      have HKB := hid hkb
      have HCL := hid (show (bs.take ct).length = ct by rw [List.length_take, HBL.out]; omega)
      clear hg hB hk3 hkb hsl hst HA2
      go_wp2_with (
        at_builtin
        refine EBy.law (.tmp 29) (.tmp 32) (.slice (some ⟨w3.heap.size, 0, none⟩) 0 0) (some ⟨g, 0, none⟩) ct bl rfl rfl rfl rfl w3.heap.size 0 [] (bcells (bs.take ct)) (Own.lit0 w3 5 1) (by rw [bcells_len, HCL.out]; omega) HSR.out (bcells_one _) (by omega) (by unfold maxLen; omega) (by simp) ?_
        intro A4 c4 w4 hown hg
        simp only [Nat.zero_add, List.nil_append] at hown
        have hk2 : Same w3 w4 := HKB.out.app (Own.lit0 w3 5 1) hg (fun g h1 h2 => by omega)
        have HOW := hid hown
        have HK4 := hid hk2
        clear hg hown hk2)
      refine (newReader_any w4 (fun _ => False) A4 ct c4 (bs.take ct) (HOW.out.sl (fun _ _ f => f)) (by omega)).mono ?_
      rintro e w5 ⟨rb, A5, c5, rfl, hrb, hR, hk5⟩
      have HK5 := hid ((HK3.out.then HK4.out).then hk5)
      have hrw : w.heap.size ≤ rb := by have := HK3.out.size; have := HK4.out.size; omega
      have HI : Hid (TruI w rb (xs.map Tm.pt) ct 0 w5) := hid ⟨A5, _, c5, by rw [truS_zero, HBS.out]; exact hR.wide (fun _ _ f => f.elim), HK5.out⟩
      clear hR hk5 HOW HKB HSR
      go_wp2
      go_loopw [7, 39] (fun a i wr => ∃ k : Nat, k ≤ m ∧ i = .int .i64 k ∧ (∃ s : Nat, a = .int .i64 s ∧ s = lenT (xs.map Tm.pt) k ∧ s ≤ 10000) ∧ TruI w rb (xs.map Tm.pt) ct k wr) (fun _ i _ => m - (RowKit.intOf i).toNat)
      case atStart => exact ⟨0, by omega, rfl, ⟨0, rfl, by simp [lenT, putAll], by omega⟩, HI.out⟩
      case round =>
        obtain ⟨k, hkm, rfl, ⟨sn, rfl, hsn, hs4⟩, A1, n1, c1, hR, hK⟩ := hrel
        have HSN := hid hsn
        clear hsn
        by_cases hlt : k < m
        · obtain ⟨x, hx⟩ := get_some (l := xs) (k := k) (by have := HLM.out; omega)
          have hok := H.out.ok x (List.mem_of_getElem? hx)
          have hel := H.out.el x (List.mem_of_getElem? hx)
          have hpx : (xs.map Tm.pt)[k]? = some x.pt := by simp [hx]
          have hnx := lenT_next hpx
          have hle1 : lenT (xs.map Tm.pt) (k + 1) ≤ 10000 := by
            refine Nat.le_trans ?_ hall
            unfold lenT
            rw [← HBL.out, ← HBS.out]
            conv => rhs; rw [← List.take_append_drop (k + 1) (xs.map Tm.pt), putAll, List.flatMap_append]
            simp [putAll]
          obtain ⟨b, off, rfl, hb, q0, q1, q2, q3, q4⟩ := (H.out.same hK).at5 hx
          have hxm : x.m ≤ 1000000 := by have := hok.l; have := hel.len; simp only [Tm.pt] at *; omega
          have hk0 := hok.k0
          have hk4 := hok.k4
          simp only [Tm.pt] at hk0 hk4
          have HPU := hid (fun W (hk : Same w W) => put_any W (fun _ => False) x (hel.same hk) hok)
          have HRD := hid (fun W (hk : Same wr W) => read_any W rb (fun _ => False) A1 n1 c1 _ (hR.same hk) (by have := truS_len (xs.map Tm.pt) ct k; omega) x.k hk0 hk4)
          have HON := hid (fun W (hk : Same w W) => only_any W (fun _ => False) x (hel.same hk) hxm hk0 hk4)
          have HOL := hid (show (onlyT x.pt).l.length ≤ 1000000 by
            have := hok.l
            unfold onlyT
            split
            · simp
            · split
              · simp
              · split
                · exact this
                · simp)
          have hbx := (Blk.made wr 33 x.cells.toArray)
          have hka : Same wr (wr.alloc (.cells x.cells.toArray 33)) := (Keep.refl _ wr).alloc _
          have HKA := hid hka
          have HBX := hid hbx
          have HK := hid hK
          have HTI := hid (fun hc => truS_in (cut := ct) hpx hok hc)
          have HTO := hid (fun hc => truS_out (cut := ct) hpx hok hc)
          have HXK := hid (show x.pt.k = x.k from rfl)
          have hrbl := hR.top.lt
          generalize hpl : (putT x.pt).length = pl at *
          have HPL := hid hpl
          have hplb : pl ≤ 10000 := by omega
          have HNX := hid hnx
          generalize x.pt = t at *
          clear hx hok hel hpx hR hK hka hbx hpl hnx
          obtain ⟨kk, n, bo, st, C, cm, cc, l⟩ := x
          simp only [Tm.cells] at q0 q1 q2 q3 q4 HPU HRD HON HKA HBX HXK
          go_wp2_with fail
          refine (HPU.out _ (HK.out.then HKA.out)).mono ?_
          rintro e w6 ⟨A6, c6, rfl, _, hk6⟩
          rw [HPL.out]
          have HK6 := hid (HKA.out.then hk6)
          have hb6 := HBX.out.keep hk6 (fun f => f)
          have HB6 := hid hb6
          have y0 : w6.cell? ⟨wr.heap.size, 0, none⟩ = some (.int .i64 kk) := hb6.at_ 0
          have y1 : w6.cell? ⟨wr.heap.size, 1, none⟩ = some (.int .i64 n) := hb6.at_ 1
          have y2 : w6.cell? ⟨wr.heap.size, 2, none⟩ = some (.bool bo) := hb6.at_ 2
          have y3 : w6.cell? ⟨wr.heap.size, 3, none⟩ = some (.string st) := hb6.at_ 3
          have y4 : w6.cell? ⟨wr.heap.size, 4, none⟩ = some (.slice C cm cc) := hb6.at_ 4
          have HRD6 := hid (HRD.out _ HK6.out)
          clear hk6 hb6 HPU HRD
          go_wp2_with fail
          refine HRD6.out.mono ?_
          rintro e w7 ⟨A7, n7, c7, ⟨k1, n1', b1, s1, C1, m1, c1', l1⟩, rfl, hxp, hxo, hR7, hk7⟩
          simp only [Tm.cells]
          have hb7 := HB6.out.keep hk7 (by omega)
          have HB7 := hid (hb7.alloc (.cells #[.int .i64 k1, .int .i64 n1', .bool b1, .string s1, .slice C1 m1 c1'] 33))
          have HG7 := hid (Blk.made w7 33 #[.int .i64 k1, .int .i64 n1', .bool b1, .string s1, .slice C1 m1 c1'])
          have hka7 : Same w7 (w7.alloc (.cells #[.int .i64 k1, .int .i64 n1', .bool b1, .string s1, .slice C1 m1 c1'] 33)) := (Keep.refl _ w7).alloc _
          have HXP := hid hxp
          have HXO := hid (hxo.same hka7)
          have HR7 := hid (hR7.same hka7)
          have HK7 := hid (((HK.out.then HK6.out).trans hk7 (fun i hi e => by omega)).then hka7)
          clear hxp hxo hR7 hk7 hb7 hka7 y0 y1 y2 y3 y4 HRD6
          by_cases hcut : lenT (xs.map Tm.pt) (k + 1) ≤ ct
          · have hget := HTI.out hcut
            rw [HXK.out] at hget
            rw [hget] at HXP HR7
            have hsn : (sn : Int) + pl ≤ ct := by have := HNX.out; have := HSN.out; omega
            have hsn2 := hid (show sn + pl = lenT (xs.map Tm.pt) (k + 1) by have := HNX.out; have := HSN.out; omega)
            clear hget hcut
            go_wp2
            generalize hw8 : w7.alloc (.cells #[.int .i64 k1, .int .i64 n1', .bool b1, .string s1, .slice C1 m1 c1'] 33) = w8 at *
            clear hw8
            have HON8 := hid (HON.out w8.drew (HK7.out.drew))
            have hd1 : decide ((sn : Int) + pl ≤ ct) = true := decide_eq_true hsn
            have hd2 : decide ((ct : Int) < sn + pl) = false := decide_eq_false (by omega)
            have hd3 : decide (sn + pl ≤ ct) = true := decide_eq_true (by omega)
            have hd4 : decide (ct < sn + pl) = false := decide_eq_false (by omega)
            refine wp_region_held_drew (S := fun W => W.cell? ⟨wr.heap.size, 0, none⟩ = some (.int .i64 kk) ∧ W.cell? ⟨wr.heap.size, 1, none⟩ = some (.int .i64 n) ∧ W.cell? ⟨wr.heap.size, 2, none⟩ = some (.bool bo) ∧ W.cell? ⟨wr.heap.size, 3, none⟩ = some (.string st) ∧ W.cell? ⟨wr.heap.size, 4, none⟩ = some (.slice C cm cc) ∧ W.cell? ⟨w7.heap.size, 0, none⟩ = some (.int .i64 k1) ∧ W.cell? ⟨w7.heap.size, 1, none⟩ = some (.int .i64 n1') ∧ W.cell? ⟨w7.heap.size, 2, none⟩ = some (.bool b1) ∧ W.cell? ⟨w7.heap.size, 3, none⟩ = some (.string s1) ∧ W.cell? ⟨w7.heap.size, 4, none⟩ = some (.slice C1 m1 c1')) (by kernel_rfl) ⟨(HB7.out).at_ 0, (HB7.out).at_ 1, (HB7.out).at_ 2, (HB7.out).at_ 3, (HB7.out).at_ 4, (HG7.out).at_ 0, (HG7.out).at_ 1, (HG7.out).at_ 2, (HG7.out).at_ 3, (HG7.out).at_ 4⟩ (fun hHeld => ?_)
            refine takeO (i := 0) (v := ?_) (by kernel_rfl) (by kernel_rfl) (by kernel_rfl) (fun c a d v w h => by cases d <;> exact h) (oi := ?_) ?_ ?_ (by assumption) ?_
            rotate_left 2
            · (simp only [List.getElem?_toArray, List.getElem?_cons_zero]; rfl)
            · (refine Or.inl ⟨by rfl, ?_⟩; intro w hSw; (try dsimp only at hSw); go_simp; try with_reducible rfl)
            try simp only [Act.put, List.setIfInBounds_toArray, List.set_cons_zero, List.set_cons_succ]
            refine takeO (i := 1) (v := ?_) (by kernel_rfl) (by kernel_rfl) (by kernel_rfl) (fun c a d v w h => by cases d <;> exact h) (oi := ?_) ?_ ?_ (by assumption) ?_
            rotate_left 2
            · (simp only [List.getElem?_toArray, List.getElem?_cons_succ, List.getElem?_cons_zero]; rfl)
            · (refine Or.inl ⟨by rfl, ?_⟩; intro w hSw; (try dsimp only at hSw); go_simp; try with_reducible rfl)
            try simp only [Act.put, List.setIfInBounds_toArray, List.set_cons_zero, List.set_cons_succ]
            refine takeO (i := 2) (v := ?_) (by kernel_rfl) (by kernel_rfl) (by kernel_rfl) (fun c a d v w h => by cases d <;> exact h) (oi := ?_) ?_ ?_ (by assumption) ?_
            rotate_left 2
            · (simp only [List.getElem?_toArray, List.getElem?_cons_succ, List.getElem?_cons_zero]; rfl)
            · (refine Or.inl ⟨by rfl, ?_⟩; intro w hSw; (try dsimp only at hSw); go_simp; try with_reducible rfl)
            try simp only [Act.put, List.setIfInBounds_toArray, List.set_cons_zero, List.set_cons_succ]
            refine takeO (i := 3) (v := ?_) (by kernel_rfl) (by kernel_rfl) (by kernel_rfl) (fun c a d v w h => by cases d <;> exact h) (oi := ?_) ?_ ?_ (by assumption) ?_
            rotate_left 2
            · (simp only [List.getElem?_toArray, List.getElem?_cons_succ, List.getElem?_cons_zero]; rfl)
            · (refine Or.inl ⟨by rfl, ?_⟩; intro w hSw; (try dsimp only at hSw); go_simp; try with_reducible rfl)
            try simp only [Act.put, List.setIfInBounds_toArray, List.set_cons_zero, List.set_cons_succ]
            refine takeO (i := 4) (v := ?_) (by kernel_rfl) (by kernel_rfl) (by kernel_rfl) (fun c a d v w h => by cases d <;> exact h) (oi := ?_) ?_ ?_ (by assumption) ?_
            rotate_left 2
            · (simp only [List.getElem?_toArray, List.getElem?_cons_succ, List.getElem?_cons_zero]; rfl)
            · (refine Or.inl ⟨by rfl, ?_⟩; intro w hSw; (try dsimp only at hSw); go_simp; try with_reducible rfl)
            try simp only [Act.put, List.setIfInBounds_toArray, List.set_cons_zero, List.set_cons_succ]
            refine takeO (i := 5) (v := ?_) (by kernel_rfl) (by kernel_rfl) (by kernel_rfl) (fun c a d v w h => by cases d <;> exact h) (oi := ?_) ?_ ?_ (by assumption) ?_
            rotate_left 2
            · (simp only [List.getElem?_toArray, List.getElem?_cons_succ, List.getElem?_cons_zero]; rfl)
            · (refine Or.inl ⟨by rfl, ?_⟩; intro w hSw; (try dsimp only at hSw); go_simp; try with_reducible rfl)
            try simp only [Act.put, List.setIfInBounds_toArray, List.set_cons_zero, List.set_cons_succ]
            refine wpAnyH_ready (rs := [6]) (by kernel_rfl) (by simp) ?_
            refine AllReadyH.cons rfl (fun K hK => ?_) AllReadyH.nil
            go_simp
            refine (HON8.out).mono ?_
            rintro e w9 ⟨y, rfl, hy, hym, hyo, hk9⟩
            have HK9 := hid (((Keep.refl (fun _ => False) w8).drew).then hk9)
            have hcs := same_any w9 (· < w6.heap.size) (fun i => w8.drew.heap.size ≤ i) ⟨k1, n1', b1, s1, C1, m1, c1', l1⟩ y (HXO.out.same HK9.out) hyo (by
              have h1 := HXO.out.len
              have h2 := congrArg Tg.l HXP.out
              simp only [Tm.pt] at h1 h2 ⊢
              have := HOL.out
              rw [← h2] at this; omega)
            rw [HXP.out, hy, sameT_self] at hcs
            have HCS := hid hcs
            clear hcs hy hym hyo hk9
            refine hK.out _ _ ⟨(HB7.out.keep HK9.out (fun f => f)).at_ 0, (HB7.out.keep HK9.out (fun f => f)).at_ 1, (HB7.out.keep HK9.out (fun f => f)).at_ 2, (HB7.out.keep HK9.out (fun f => f)).at_ 3, (HB7.out.keep HK9.out (fun f => f)).at_ 4, (HG7.out.keep HK9.out (fun f => f)).at_ 0, (HG7.out.keep HK9.out (fun f => f)).at_ 1, (HG7.out.keep HK9.out (fun f => f)).at_ 2, (HG7.out.keep HK9.out (fun f => f)).at_ 3, (HG7.out.keep HK9.out (fun f => f)).at_ 4⟩ (fun hHeld1 => ?_)
            clear hK K
            try simp only [Act.put, List.setIfInBounds_toArray, List.set_cons_zero, List.set_cons_succ]
            refine wpAnyH_ready (rs := [7]) (by kernel_rfl) (by simp) ?_
            refine AllReadyH.cons rfl (fun K hK => ?_) AllReadyH.nil
            go_simp
            refine (HCS.out).mono ?_
            rintro e w10 ⟨rfl, hk10⟩
            have HK10 := hid (HK9.out.then hk10)
            have HZ : Hid (TruI w rb (xs.map Tm.pt) ct (k + 1) w10) := hid ⟨_, _, _, HR7.out.same HK10.out, HK7.out.then HK10.out⟩
            clear hk10
            refine hK.out _ _ ⟨(HB7.out.keep HK10.out (fun f => f)).at_ 0, (HB7.out.keep HK10.out (fun f => f)).at_ 1, (HB7.out.keep HK10.out (fun f => f)).at_ 2, (HB7.out.keep HK10.out (fun f => f)).at_ 3, (HB7.out.keep HK10.out (fun f => f)).at_ 4, (HG7.out.keep HK10.out (fun f => f)).at_ 0, (HG7.out.keep HK10.out (fun f => f)).at_ 1, (HG7.out.keep HK10.out (fun f => f)).at_ 2, (HG7.out.keep HK10.out (fun f => f)).at_ 3, (HG7.out.keep HK10.out (fun f => f)).at_ 4⟩ (fun hHeld2 => ?_)
            clear hK K
            try simp only [Act.put, List.setIfInBounds_toArray, List.set_cons_zero, List.set_cons_succ]
            refine takeO (i := 8) (v := ?_) (by kernel_rfl) (by kernel_rfl) (by kernel_rfl) (fun c a d v w h => by cases d <;> exact h) (oi := ?_) ?_ ?_ (by assumption) ?_
            rotate_left 2
            · (simp only [List.getElem?_toArray, List.getElem?_cons_succ, List.getElem?_cons_zero]; rfl)
            · (refine Or.inl ⟨by rfl, ?_⟩; intro w hSw; (try dsimp only at hSw); go_simp; try with_reducible rfl)
            try simp only [Act.put, List.setIfInBounds_toArray, List.set_cons_zero, List.set_cons_succ]
            refine takeO (i := 9) (v := ?_) (by kernel_rfl) (by kernel_rfl) (by kernel_rfl) (fun c a d v w h => by cases d <;> exact h) (oi := ?_) ?_ ?_ (by assumption) ?_
            rotate_left 2
            · (simp only [List.getElem?_toArray, List.getElem?_cons_succ, List.getElem?_cons_zero]; rfl)
            · (refine Or.inl ⟨by rfl, ?_⟩; intro w hSw; (try dsimp only at hSw); go_simp; try with_reducible rfl)
            try simp only [Act.put, List.setIfInBounds_toArray, List.set_cons_zero, List.set_cons_succ]
            refine takeO (i := 10) (v := ?_) (by kernel_rfl) (by kernel_rfl) (by kernel_rfl) (fun c a d v w h => by cases d <;> exact h) (oi := ?_) ?_ ?_ (by assumption) ?_
            rotate_left 2
            · (simp only [List.getElem?_toArray, List.getElem?_cons_succ, List.getElem?_cons_zero]; rfl)
            · (refine Or.inl ⟨by rfl, ?_⟩; intro w hSw; (try dsimp only at hSw); go_simp; try with_reducible rfl)
            try simp only [Act.put, List.setIfInBounds_toArray, List.set_cons_zero, List.set_cons_succ]
            refine takeO (i := 11) (v := ?_) (by kernel_rfl) (by kernel_rfl) (by kernel_rfl) (fun c a d v w h => by cases d <;> exact h) (oi := ?_) ?_ ?_ (by assumption) ?_
            rotate_left 2
            · (simp only [List.getElem?_toArray, List.getElem?_cons_succ, List.getElem?_cons_zero]; rfl)
            · (refine Or.inl ⟨by rfl, ?_⟩; intro w hSw; (try dsimp only at hSw); go_simp; try with_reducible rfl)
            try simp only [Act.put, List.setIfInBounds_toArray, List.set_cons_zero, List.set_cons_succ]
            refine takeO (i := 12) (v := ?_) (by kernel_rfl) (by kernel_rfl) (by kernel_rfl) (fun c a d v w h => by cases d <;> exact h) (oi := ?_) ?_ ?_ (by assumption) ?_
            rotate_left 2
            · (simp only [List.getElem?_toArray, List.getElem?_cons_succ, List.getElem?_cons_zero]; rfl)
            · (refine Or.inl ⟨by rfl, ?_⟩; intro w hSw; (try dsimp only at hSw); go_simp; try with_reducible rfl)
            try simp only [Act.put, List.setIfInBounds_toArray, List.set_cons_zero, List.set_cons_succ]
            refine takeO (i := 13) (v := ?_) (by kernel_rfl) (by kernel_rfl) (by kernel_rfl) (fun c a d v w h => by cases d <;> exact h) (oi := ?_) ?_ ?_ (by assumption) ?_
            rotate_left 2
            · (simp only [List.getElem?_toArray, List.getElem?_cons_succ, List.getElem?_cons_zero]; rfl)
            · (refine Or.inl ⟨by rfl, ?_⟩; intro w hSw; (try dsimp only at hSw); go_simp; try with_reducible rfl)
            try simp only [Act.put, List.setIfInBounds_toArray, List.set_cons_zero, List.set_cons_succ]
            refine takeO (i := 14) (v := ?_) (by kernel_rfl) (by kernel_rfl) (by kernel_rfl) (fun c a d v w h => by cases d <;> exact h) (oi := ?_) ?_ ?_ (by assumption) ?_
            rotate_left 2
            · (simp only [List.getElem?_toArray, List.getElem?_cons_succ, List.getElem?_cons_zero]; rfl)
            · (refine Or.inl ⟨by rfl, ?_⟩; intro w hSw; (try dsimp only at hSw); go_simp; try with_reducible rfl)
            try simp only [Act.put, List.setIfInBounds_toArray, List.set_cons_zero, List.set_cons_succ]
            refine takeO (i := 15) (v := undef) (by kernel_rfl) (by kernel_rfl) (by kernel_rfl) (fun c a d v w h => by cases d <;> exact h) (oi := ?_) ?_ ?_ (by assumption) ?_
            rotate_left 1
            · (simp only [List.getElem?_toArray, List.getElem?_cons_succ, List.getElem?_cons_zero]; rfl)
            · exact Or.inr ⟨by rfl, rfl⟩
            try simp only [Act.put, List.setIfInBounds_toArray, List.set_cons_zero, List.set_cons_succ]
            refine takeO (i := 16) (v := undef) (by kernel_rfl) (by kernel_rfl) (by kernel_rfl) (fun c a d v w h => by cases d <;> exact h) (oi := ?_) ?_ ?_ (by assumption) ?_
            rotate_left 1
            · (simp only [List.getElem?_toArray, List.getElem?_cons_succ, List.getElem?_cons_zero]; rfl)
            · exact Or.inr ⟨by rfl, rfl⟩
            try simp only [Act.put, List.setIfInBounds_toArray, List.set_cons_zero, List.set_cons_succ]
            refine takeO (i := 17) (v := undef) (by kernel_rfl) (by kernel_rfl) (by kernel_rfl) (fun c a d v w h => by cases d <;> exact h) (oi := ?_) ?_ ?_ (by assumption) ?_
            rotate_left 1
            · (simp only [List.getElem?_toArray, List.getElem?_cons_succ, List.getElem?_cons_zero]; rfl)
            · exact Or.inr ⟨by rfl, rfl⟩
            try simp only [Act.put, List.setIfInBounds_toArray, List.set_cons_zero, List.set_cons_succ]
            refine takeO (i := 18) (v := undef) (by kernel_rfl) (by kernel_rfl) (by kernel_rfl) (fun c a d v w h => by cases d <;> exact h) (oi := ?_) ?_ ?_ (by assumption) ?_
            rotate_left 1
            · (simp only [List.getElem?_toArray, List.getElem?_cons_succ, List.getElem?_cons_zero]; rfl)
            · exact Or.inr ⟨by rfl, rfl⟩
            try simp only [Act.put, List.setIfInBounds_toArray, List.set_cons_zero, List.set_cons_succ]
            refine takeO (i := 19) (v := undef) (by kernel_rfl) (by kernel_rfl) (by kernel_rfl) (fun c a d v w h => by cases d <;> exact h) (oi := ?_) ?_ ?_ (by assumption) ?_
            rotate_left 1
            · (simp only [List.getElem?_toArray, List.getElem?_cons_succ, List.getElem?_cons_zero]; rfl)
            · exact Or.inr ⟨by rfl, rfl⟩
            try simp only [Act.put, List.setIfInBounds_toArray, List.set_cons_zero, List.set_cons_succ]
            refine takeO (i := 20) (v := undef) (by kernel_rfl) (by kernel_rfl) (by kernel_rfl) (fun c a d v w h => by cases d <;> exact h) (oi := ?_) ?_ ?_ (by assumption) ?_
            rotate_left 1
            · (simp only [List.getElem?_toArray, List.getElem?_cons_succ, List.getElem?_cons_zero]; rfl)
            · exact Or.inr ⟨by rfl, rfl⟩
            try simp only [Act.put, List.setIfInBounds_toArray, List.set_cons_zero, List.set_cons_succ]
            refine takeO (i := 21) (v := ?_) (by kernel_rfl) (by kernel_rfl) (by kernel_rfl) (fun c a d v w h => by cases d <;> exact h) (oi := ?_) ?_ ?_ (by assumption) ?_
            rotate_left 2
            · (simp only [List.getElem?_toArray, List.getElem?_cons_succ, List.getElem?_cons_zero]; rfl)
            · (refine Or.inl ⟨by rfl, ?_⟩; intro w hSw; (try dsimp only at hSw); go_simp; try with_reducible rfl)
            try simp only [Act.put, List.setIfInBounds_toArray, List.set_cons_zero, List.set_cons_succ]
            refine takeO (i := 22) (v := ?_) (by kernel_rfl) (by kernel_rfl) (by kernel_rfl) (fun c a d v w h => by cases d <;> exact h) (oi := ?_) ?_ ?_ (by assumption) ?_
            rotate_left 2
            · (simp only [List.getElem?_toArray, List.getElem?_cons_succ, List.getElem?_cons_zero]; rfl)
            · (refine Or.inl ⟨by rfl, ?_⟩; intro w hSw; (try dsimp only at hSw); go_simp; try with_reducible rfl)
            try simp only [Act.put, List.setIfInBounds_toArray, List.set_cons_zero, List.set_cons_succ]
            refine wpAnyH_done (by kernel_rfl) ?_ _
            go_wp2
            go_roundw
            case rel => exact ⟨k + 1, by omega, by go_num, ⟨sn + pl, by go_num, hsn2.out, by have := hsn2.out; omega⟩, HZ.out⟩
            case measure => simp [RowKit.intOf]; omega
          · have hget := HTO.out (by omega)
            rw [HXK.out] at hget
            rw [hget] at HXP HR7
            have hsn : (ct : Int) < sn + pl := by have := HNX.out; have := HSN.out; omega
            have hsn2 := hid (show sn + pl = lenT (xs.map Tm.pt) (k + 1) by have := HNX.out; have := HSN.out; omega)
            clear hget hcut
            go_wp2
            generalize hw8 : w7.alloc (.cells #[.int .i64 k1, .int .i64 n1', .bool b1, .string s1, .slice C1 m1 c1'] 33) = w8 at *
            clear hw8
            have hcs := same_any w8.drew (· < w6.heap.size) (fun _ => False) ⟨k1, n1', b1, s1, C1, m1, c1', l1⟩ ⟨kk, 0, false, ⟨#[]⟩, none, 0, 0, []⟩ (HXO.out.same (Keep.refl _ _).drew) ⟨Sl.nil _ _ _ _⟩ (by
              have h1 := HXO.out.len
              have h2 := congrArg Tg.l HXP.out
              simp only [Tm.pt, zeroT] at h1 h2 ⊢
              rw [h2] at h1; simp at h1; omega)
            rw [HXP.out, show Tm.pt ⟨kk, 0, false, ⟨#[]⟩, none, 0, 0, []⟩ = zeroT kk from rfl, sameT_self] at hcs
            simp only [Tm.cells] at hcs
            have HCS := hid hcs
            clear hcs
            have hd1 : decide ((sn : Int) + pl ≤ ct) = false := decide_eq_false (by omega)
            have hd2 : decide ((ct : Int) < sn + pl) = true := decide_eq_true hsn
            have hd3 : decide (sn + pl ≤ ct) = false := decide_eq_false (by omega)
            have hd4 : decide (ct < sn + pl) = true := decide_eq_true (by omega)
            refine wp_region_held_drew (S := fun W => W.cell? ⟨wr.heap.size, 0, none⟩ = some (.int .i64 kk) ∧ W.cell? ⟨wr.heap.size, 1, none⟩ = some (.int .i64 n) ∧ W.cell? ⟨wr.heap.size, 2, none⟩ = some (.bool bo) ∧ W.cell? ⟨wr.heap.size, 3, none⟩ = some (.string st) ∧ W.cell? ⟨wr.heap.size, 4, none⟩ = some (.slice C cm cc) ∧ W.cell? ⟨w7.heap.size, 0, none⟩ = some (.int .i64 k1) ∧ W.cell? ⟨w7.heap.size, 1, none⟩ = some (.int .i64 n1') ∧ W.cell? ⟨w7.heap.size, 2, none⟩ = some (.bool b1) ∧ W.cell? ⟨w7.heap.size, 3, none⟩ = some (.string s1) ∧ W.cell? ⟨w7.heap.size, 4, none⟩ = some (.slice C1 m1 c1')) (by kernel_rfl) ⟨(HB7.out).at_ 0, (HB7.out).at_ 1, (HB7.out).at_ 2, (HB7.out).at_ 3, (HB7.out).at_ 4, (HG7.out).at_ 0, (HG7.out).at_ 1, (HG7.out).at_ 2, (HG7.out).at_ 3, (HG7.out).at_ 4⟩ (fun hHeld => ?_)
            refine takeO (i := 0) (v := ?_) (by kernel_rfl) (by kernel_rfl) (by kernel_rfl) (fun c a d v w h => by cases d <;> exact h) (oi := ?_) ?_ ?_ (by assumption) ?_
            rotate_left 2
            · (simp only [List.getElem?_toArray, List.getElem?_cons_zero]; rfl)
            · (refine Or.inl ⟨by rfl, ?_⟩; intro w hSw; (try dsimp only at hSw); go_simp; try with_reducible rfl)
            try simp only [Act.put, List.setIfInBounds_toArray, List.set_cons_zero, List.set_cons_succ]
            refine takeO (i := 1) (v := ?_) (by kernel_rfl) (by kernel_rfl) (by kernel_rfl) (fun c a d v w h => by cases d <;> exact h) (oi := ?_) ?_ ?_ (by assumption) ?_
            rotate_left 2
            · (simp only [List.getElem?_toArray, List.getElem?_cons_succ, List.getElem?_cons_zero]; rfl)
            · (refine Or.inl ⟨by rfl, ?_⟩; intro w hSw; (try dsimp only at hSw); go_simp; try with_reducible rfl)
            try simp only [Act.put, List.setIfInBounds_toArray, List.set_cons_zero, List.set_cons_succ]
            refine takeO (i := 2) (v := ?_) (by kernel_rfl) (by kernel_rfl) (by kernel_rfl) (fun c a d v w h => by cases d <;> exact h) (oi := ?_) ?_ ?_ (by assumption) ?_
            rotate_left 2
            · (simp only [List.getElem?_toArray, List.getElem?_cons_succ, List.getElem?_cons_zero]; rfl)
            · (refine Or.inl ⟨by rfl, ?_⟩; intro w hSw; (try dsimp only at hSw); go_simp; try with_reducible rfl)
            try simp only [Act.put, List.setIfInBounds_toArray, List.set_cons_zero, List.set_cons_succ]
            refine takeO (i := 3) (v := ?_) (by kernel_rfl) (by kernel_rfl) (by kernel_rfl) (fun c a d v w h => by cases d <;> exact h) (oi := ?_) ?_ ?_ (by assumption) ?_
            rotate_left 2
            · (simp only [List.getElem?_toArray, List.getElem?_cons_succ, List.getElem?_cons_zero]; rfl)
            · (refine Or.inl ⟨by rfl, ?_⟩; intro w hSw; (try dsimp only at hSw); go_simp; try with_reducible rfl)
            try simp only [Act.put, List.setIfInBounds_toArray, List.set_cons_zero, List.set_cons_succ]
            refine takeO (i := 4) (v := undef) (by kernel_rfl) (by kernel_rfl) (by kernel_rfl) (fun c a d v w h => by cases d <;> exact h) (oi := ?_) ?_ ?_ (by assumption) ?_
            rotate_left 1
            · (simp only [List.getElem?_toArray, List.getElem?_cons_succ, List.getElem?_cons_zero]; rfl)
            · exact Or.inr ⟨by rfl, rfl⟩
            try simp only [Act.put, List.setIfInBounds_toArray, List.set_cons_zero, List.set_cons_succ]
            refine takeO (i := 5) (v := undef) (by kernel_rfl) (by kernel_rfl) (by kernel_rfl) (fun c a d v w h => by cases d <;> exact h) (oi := ?_) ?_ ?_ (by assumption) ?_
            rotate_left 1
            · (simp only [List.getElem?_toArray, List.getElem?_cons_succ, List.getElem?_cons_zero]; rfl)
            · exact Or.inr ⟨by rfl, rfl⟩
            try simp only [Act.put, List.setIfInBounds_toArray, List.set_cons_zero, List.set_cons_succ]
            refine takeO (i := 6) (v := undef) (by kernel_rfl) (by kernel_rfl) (by kernel_rfl) (fun c a d v w h => by cases d <;> exact h) (oi := ?_) ?_ ?_ (by assumption) ?_
            rotate_left 1
            · (simp only [List.getElem?_toArray, List.getElem?_cons_succ, List.getElem?_cons_zero]; rfl)
            · exact Or.inr ⟨by rfl, rfl⟩
            try simp only [Act.put, List.setIfInBounds_toArray, List.set_cons_zero, List.set_cons_succ]
            refine takeO (i := 7) (v := undef) (by kernel_rfl) (by kernel_rfl) (by kernel_rfl) (fun c a d v w h => by cases d <;> exact h) (oi := ?_) ?_ ?_ (by assumption) ?_
            rotate_left 1
            · (simp only [List.getElem?_toArray, List.getElem?_cons_succ, List.getElem?_cons_zero]; rfl)
            · exact Or.inr ⟨by rfl, rfl⟩
            try simp only [Act.put, List.setIfInBounds_toArray, List.set_cons_zero, List.set_cons_succ]
            refine takeO (i := 8) (v := undef) (by kernel_rfl) (by kernel_rfl) (by kernel_rfl) (fun c a d v w h => by cases d <;> exact h) (oi := ?_) ?_ ?_ (by assumption) ?_
            rotate_left 1
            · (simp only [List.getElem?_toArray, List.getElem?_cons_succ, List.getElem?_cons_zero]; rfl)
            · exact Or.inr ⟨by rfl, rfl⟩
            try simp only [Act.put, List.setIfInBounds_toArray, List.set_cons_zero, List.set_cons_succ]
            refine takeO (i := 9) (v := ?_) (by kernel_rfl) (by kernel_rfl) (by kernel_rfl) (fun c a d v w h => by cases d <;> exact h) (oi := ?_) ?_ ?_ (by assumption) ?_
            rotate_left 2
            · (simp only [List.getElem?_toArray, List.getElem?_cons_succ, List.getElem?_cons_zero]; rfl)
            · (refine Or.inl ⟨by rfl, ?_⟩; intro w hSw; (try dsimp only at hSw); go_simp; try with_reducible rfl)
            try simp only [Act.put, List.setIfInBounds_toArray, List.set_cons_zero, List.set_cons_succ]
            refine takeO (i := 10) (v := ?_) (by kernel_rfl) (by kernel_rfl) (by kernel_rfl) (fun c a d v w h => by cases d <;> exact h) (oi := ?_) ?_ ?_ (by assumption) ?_
            rotate_left 2
            · (simp only [List.getElem?_toArray, List.getElem?_cons_succ, List.getElem?_cons_zero]; rfl)
            · (refine Or.inl ⟨by rfl, ?_⟩; intro w hSw; (try dsimp only at hSw); go_simp; try with_reducible rfl)
            try simp only [Act.put, List.setIfInBounds_toArray, List.set_cons_zero, List.set_cons_succ]
            refine takeO (i := 11) (v := ?_) (by kernel_rfl) (by kernel_rfl) (by kernel_rfl) (fun c a d v w h => by cases d <;> exact h) (oi := ?_) ?_ ?_ (by assumption) ?_
            rotate_left 2
            · (simp only [List.getElem?_toArray, List.getElem?_cons_succ, List.getElem?_cons_zero]; rfl)
            · (refine Or.inl ⟨by rfl, ?_⟩; intro w hSw; (try dsimp only at hSw); go_simp; try with_reducible rfl)
            try simp only [Act.put, List.setIfInBounds_toArray, List.set_cons_zero, List.set_cons_succ]
            refine takeO (i := 12) (v := ?_) (by kernel_rfl) (by kernel_rfl) (by kernel_rfl) (fun c a d v w h => by cases d <;> exact h) (oi := ?_) ?_ ?_ (by assumption) ?_
            rotate_left 2
            · (simp only [List.getElem?_toArray, List.getElem?_cons_succ, List.getElem?_cons_zero]; rfl)
            · (refine Or.inl ⟨by rfl, ?_⟩; intro w hSw; (try dsimp only at hSw); go_simp; try with_reducible rfl)
            try simp only [Act.put, List.setIfInBounds_toArray, List.set_cons_zero, List.set_cons_succ]
            refine takeO (i := 13) (v := ?_) (by kernel_rfl) (by kernel_rfl) (by kernel_rfl) (fun c a d v w h => by cases d <;> exact h) (oi := ?_) ?_ ?_ (by assumption) ?_
            rotate_left 2
            · (simp only [List.getElem?_toArray, List.getElem?_cons_succ, List.getElem?_cons_zero]; rfl)
            · (refine Or.inl ⟨by rfl, ?_⟩; intro w hSw; (try dsimp only at hSw); go_simp; try with_reducible rfl)
            try simp only [Act.put, List.setIfInBounds_toArray, List.set_cons_zero, List.set_cons_succ]
            refine takeO (i := 14) (v := ?_) (by kernel_rfl) (by kernel_rfl) (by kernel_rfl) (fun c a d v w h => by cases d <;> exact h) (oi := ?_) ?_ ?_ (by assumption) ?_
            rotate_left 2
            · (simp only [List.getElem?_toArray, List.getElem?_cons_succ, List.getElem?_cons_zero]; rfl)
            · (refine Or.inl ⟨by rfl, ?_⟩; intro w hSw; (try dsimp only at hSw); go_simp; try with_reducible rfl)
            try simp only [Act.put, List.setIfInBounds_toArray, List.set_cons_zero, List.set_cons_succ]
            refine takeO (i := 15) (v := ?_) (by kernel_rfl) (by kernel_rfl) (by kernel_rfl) (fun c a d v w h => by cases d <;> exact h) (oi := ?_) ?_ ?_ (by assumption) ?_
            rotate_left 2
            · (simp only [List.getElem?_toArray, List.getElem?_cons_succ, List.getElem?_cons_zero]; rfl)
            · (refine Or.inl ⟨by rfl, ?_⟩; intro w hSw; (try dsimp only at hSw); go_simp; try with_reducible rfl)
            try simp only [Act.put, List.setIfInBounds_toArray, List.set_cons_zero, List.set_cons_succ]
            refine takeO (i := 16) (v := ?_) (by kernel_rfl) (by kernel_rfl) (by kernel_rfl) (fun c a d v w h => by cases d <;> exact h) (oi := ?_) ?_ ?_ (by assumption) ?_
            rotate_left 2
            · (simp only [List.getElem?_toArray, List.getElem?_cons_succ, List.getElem?_cons_zero]; rfl)
            · (refine Or.inl ⟨by rfl, ?_⟩; intro w hSw; (try dsimp only at hSw); go_simp; try with_reducible rfl)
            try simp only [Act.put, List.setIfInBounds_toArray, List.set_cons_zero, List.set_cons_succ]
            refine takeO (i := 17) (v := ?_) (by kernel_rfl) (by kernel_rfl) (by kernel_rfl) (fun c a d v w h => by cases d <;> exact h) (oi := ?_) ?_ ?_ (by assumption) ?_
            rotate_left 2
            · (simp only [List.getElem?_toArray, List.getElem?_cons_succ, List.getElem?_cons_zero]; rfl)
            · (refine Or.inl ⟨by rfl, ?_⟩; intro w hSw; (try dsimp only at hSw); go_simp; try with_reducible rfl)
            try simp only [Act.put, List.setIfInBounds_toArray, List.set_cons_zero, List.set_cons_succ]
            refine takeO (i := 18) (v := ?_) (by kernel_rfl) (by kernel_rfl) (by kernel_rfl) (fun c a d v w h => by cases d <;> exact h) (oi := ?_) ?_ ?_ (by assumption) ?_
            rotate_left 2
            · (simp only [List.getElem?_toArray, List.getElem?_cons_succ, List.getElem?_cons_zero]; rfl)
            · (refine Or.inl ⟨by rfl, ?_⟩; intro w hSw; (try dsimp only at hSw); go_simp; try with_reducible rfl)
            try simp only [Act.put, List.setIfInBounds_toArray, List.set_cons_zero, List.set_cons_succ]
            refine wpAnyH_ready (rs := [19]) (by kernel_rfl) (by simp) ?_
            refine AllReadyH.cons rfl (fun K hK => ?_) AllReadyH.nil
            go_simp
            refine (HCS.out).mono ?_
            rintro e w10 ⟨rfl, hk10⟩
            have HK10 := hid (((Keep.refl (fun _ => False) w8).drew).then hk10)
            have HZ : Hid (TruI w rb (xs.map Tm.pt) ct (k + 1) w10) := hid ⟨_, _, _, HR7.out.same HK10.out, HK7.out.then HK10.out⟩
            clear hk10
            refine hK.out _ _ ⟨(HB7.out.keep HK10.out (fun f => f)).at_ 0, (HB7.out.keep HK10.out (fun f => f)).at_ 1, (HB7.out.keep HK10.out (fun f => f)).at_ 2, (HB7.out.keep HK10.out (fun f => f)).at_ 3, (HB7.out.keep HK10.out (fun f => f)).at_ 4, (HG7.out.keep HK10.out (fun f => f)).at_ 0, (HG7.out.keep HK10.out (fun f => f)).at_ 1, (HG7.out.keep HK10.out (fun f => f)).at_ 2, (HG7.out.keep HK10.out (fun f => f)).at_ 3, (HG7.out.keep HK10.out (fun f => f)).at_ 4⟩ (fun hHeld1 => ?_)
            clear hK K
            try simp only [Act.put, List.setIfInBounds_toArray, List.set_cons_zero, List.set_cons_succ]
            refine takeO (i := 20) (v := ?_) (by kernel_rfl) (by kernel_rfl) (by kernel_rfl) (fun c a d v w h => by cases d <;> exact h) (oi := ?_) ?_ ?_ (by assumption) ?_
            rotate_left 2
            · (simp only [List.getElem?_toArray, List.getElem?_cons_succ, List.getElem?_cons_zero]; rfl)
            · (refine Or.inl ⟨by rfl, ?_⟩; intro w hSw; (try dsimp only at hSw); go_simp; try with_reducible rfl)
            try simp only [Act.put, List.setIfInBounds_toArray, List.set_cons_zero, List.set_cons_succ]
            refine takeO (i := 21) (v := ?_) (by kernel_rfl) (by kernel_rfl) (by kernel_rfl) (fun c a d v w h => by cases d <;> exact h) (oi := ?_) ?_ ?_ (by assumption) ?_
            rotate_left 2
            · (simp only [List.getElem?_toArray, List.getElem?_cons_succ, List.getElem?_cons_zero]; rfl)
            · (refine Or.inl ⟨by rfl, ?_⟩; intro w hSw; (try dsimp only at hSw); go_simp; try with_reducible rfl)
            try simp only [Act.put, List.setIfInBounds_toArray, List.set_cons_zero, List.set_cons_succ]
            refine takeO (i := 22) (v := ?_) (by kernel_rfl) (by kernel_rfl) (by kernel_rfl) (fun c a d v w h => by cases d <;> exact h) (oi := ?_) ?_ ?_ (by assumption) ?_
            rotate_left 2
            · (simp only [List.getElem?_toArray, List.getElem?_cons_succ, List.getElem?_cons_zero]; rfl)
            · (refine Or.inl ⟨by rfl, ?_⟩; intro w hSw; (try dsimp only at hSw); go_simp; try with_reducible rfl)
            try simp only [Act.put, List.setIfInBounds_toArray, List.set_cons_zero, List.set_cons_succ]
            refine wpAnyH_done (by kernel_rfl) ?_ _
            go_wp2
            go_roundw
            case rel => exact ⟨k + 1, by omega, by go_num, ⟨sn + pl, by go_num, hsn2.out, by have := hsn2.out; omega⟩, HZ.out⟩
            case measure => simp [RowKit.intOf]; omega
        · have e1 := truS_end (l := xs.map Tm.pt) (cut := ct) (k := k) (by have := HLM.out; simp; omega) (by rw [HBS.out, HBL.out]; exact hct)
          rw [e1] at hR
          have HC1 := hid (finish_any wr rb (fun _ => False) A1 n1 c1 _ hR (by simp))
          have HK := hid hK
          rw [show endE ⟨[], 11⟩ = 11 from rfl] at HC1
          clear hR hK e1
          go_wp2_with fail
          refine HC1.out.mono ?_
          rintro e w9 ⟨rfl, rfl⟩
          go_wp2
          go_ret
          exact ⟨rfl, HK.out⟩
    · have hcc : cut < 0 ∨ (0 ≤ cut ∧ (bl : Int) ≤ cut) := by omega
      clear hcut
      rcases hcc with hcc | ⟨hcc1, hcc⟩
      all_goals
        go_enter Try.func6, Try.ntmps6
        go_wp2_with fail
        refine (awake_any w).mono ?_
        rintro e w1 ⟨rfl, hk1⟩
        have HF1 := hid (HF.out w1 hk1)
        have HK1 := hid hk1
        clear hk1 HF
        go_wp2_with fail
        refine HF1.out.mono ?_
        rintro e w2 ⟨rfl, hk2⟩
        have HK2 := hid (HK1.out.then hk2)
        have HA2 := hid (HA.out w2 HK2.out)
        clear hk2 HF1 HA
        go_wp2_with fail
        refine HA2.out.mono ?_
        rintro e w3 ⟨g, rfl, hg, hB, hk3⟩
        rw [HBL.out]
        have HK3 := hid (HK2.out.then hk3)
        clear hg hB hk3
        go_wp2
        go_ret
        exact ⟨rfl, HK3.out⟩
  · have hf' : fewB (xs.map Tm.pt) = false := by simpa using hf
    rw [hf'] at HF
    clear hf hf' HT
    go_enter Try.func6, Try.ntmps6
    go_wp2_with fail
    refine (awake_any w).mono ?_
    rintro e w1 ⟨rfl, hk1⟩
    have HF1 := hid (HF.out w1 hk1)
    have HK1 := hid hk1
    clear hk1 HF
    go_wp2_with fail
    refine HF1.out.mono ?_
    rintro e w2 ⟨rfl, hk2⟩
    have HK2 := hid (HK1.out.then hk2)
    clear hk2
    go_wp2_with fail
    refine (awake_any w2).mono ?_
    rintro e w3 ⟨rfl, hk3⟩
    go_wp2
    go_ret
    exact ⟨rfl, HK2.out.then hk3⟩
end Go.Proofs.Ytohgclbgjdpggaa

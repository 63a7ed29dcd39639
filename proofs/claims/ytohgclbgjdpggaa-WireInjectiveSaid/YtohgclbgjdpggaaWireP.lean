import Derived.Test.YtohgclbgjdpggaaWireO
namespace Go.Proofs.Ytohgclbgjdpggaa
open Go.RowKit

/-- append([]byte{}, b...): what it leaves -/
theorem putAll_drop {l : List Tg} {k : Nat} {t : Tg} (h : l[k]? = some t) : putAll (l.drop k) = putT t ++ putAll (l.drop (k + 1)) := by
  obtain ⟨hk, rfl⟩ := List.getElem?_eq_some_iff.1 h
  unfold putAll
  rw [List.drop_eq_getElem_cons hk, List.flatMap_cons]
theorem putT_small {t : Tg} (h : OkT t) : (putT t).length ≤ 10 * wt t := by
  unfold putT wt
  split
  · have := encI_le h.n; omega
  · split
    · simp [encB]; omega
    · split
      · have := encI_le (n := (t.d.length : Int)) (encI_ok _ h.d)
        simp [encD]; omega
      · split
        · have h1 := encI_le (n := (t.l.length : Int)) (encI_ok _ h.l)
          have h2 := encIs_le t.l h.e
          simp [encL]; omega
        · simp
theorem putAll_small : ∀ l : List Tg, (∀ t ∈ l, OkT t) → (putAll l).length ≤ 10 * wsum l
  | [], _ => by simp [putAll]
  | t :: l, h => by
    have h1 := putT_small (h t (by simp))
    have h2 := putAll_small l (fun x hx => h x (by simp [hx]))
    simp only [putAll, wsum, List.flatMap_cons, List.length_append, List.map_cons, List.sum_cons] at *
    omega

/-- the two readers of a round trip, behind k values -/
def RtI (w : World) (rb qb : Nat) (l : List Tg) (be : UInt8) (k : Nat) (wr : World) : Prop :=
  ∃ A n c B m d, Rd wr rb (· = qb) A n c ⟨putAll (l.drop k), 0⟩ ∧ Rd wr qb (· = rb) B m d ⟨putAll (l.drop k) ++ [be], 0⟩ ∧ Same w wr

set_option maxRecDepth 100000 in
set_option maxHeartbeats 8000000 in
theorem wireRoundTrip_walk (w : World) (B : Option Addr) (m d : Nat) (xs : List Tm) (h : Tr w (fun _ => False) B m xs) (hm : m ≤ 281474976710656) (be : UInt8) :
    Calls Try.prog 5 #[.slice B m d, .int .u8 be.toNat] w fun e w' => e = .returned (.bool true) ∧ Same w w' := by
  have HT := hid h
  have hbe := be.toNat_lt
  have HF := hid (fun W (hk : Same w W) => few_any W (fun _ => False) B m d xs (h.same hk) hm)
  clear h
  by_cases hf : fewB (xs.map Tm.pt) = true
  · obtain ⟨hts, hsum, hm4⟩ := HT.out.ts hf
    rw [hf] at HF
    have hall : (putAll (xs.map Tm.pt)).length ≤ 10000 := by
      have := putAll_small (xs.map Tm.pt) (by intro t ht; simp only [List.mem_map] at ht; obtain ⟨x, hx, rfl⟩ := ht; exact hts.ok x hx)
      omega
    have H := hid hts
    have HA := hid (fun W (hk : Same w W) => all_any W (fun _ => False) B m d xs (hts.same hk) (by omega) (by omega))
    have hlm := hts.len
    have HLM := hid hlm
    have HDL := hid (fun k => (show (putAll ((xs.map Tm.pt).drop k)).length ≤ 10000 by
      refine Nat.le_trans ?_ hall
      conv => rhs; rw [← List.take_append_drop k (xs.map Tm.pt), putAll, List.flatMap_append]
      simp [putAll]))
    clear hf hts hsum HT hlm
    generalize hbs : putAll (xs.map Tm.pt) = bs at *
    have HBS := hid hbs
    generalize hbl : bs.length = bl at *
    have HBL := hid hbl
    clear hbs hbl
    go_enter Try.func5, Try.ntmps5
    go_wp2_with fail
    refine (awake_any w).mono ?_
    rintro e w1 ⟨rfl, hk1⟩
    have HF1 := hid (HF.out w1 hk1)
    have HK1 := hid hk1
    clear hk1 HF
    go_wp2_with fail
    refine HF1.out.mono ?_
    rintro e w2 ⟨rfl, hk2⟩
    have HK2 := hid (HK1.out.then hk2)
    have HA2 := hid (HA.out w2 HK2.out)
    clear hk2 HF1 HA
    go_wp2_with fail
    refine HA2.out.mono ?_
    rintro e w3 ⟨g, rfl, hg, hB, hk3⟩
    rw [HBL.out]
    have HK3 := hid (HK2.out.then hk3)
    have hkb : Same w3 (w3.alloc (.cells #[] 5)) := (Keep.refl _ w3).alloc _
    have hsl := Sl.of_blk (Av := fun _ => False) (size := 1) (n := bl) hB (by simp [bcells, HBL.out]) (fun f => f)
    have HSL := hid (show Sl w3 (fun _ => False) 1 (some ⟨g, 0, none⟩) bl (bcells bs) from hsl)
    have HSR := hid (HSL.out.src hkb)
    have HKB := hid hkb
    clear hg hB hk3 hkb hsl HA2
    go_wp2_with (
      at_builtin
      refine EBy.law (.tmp 20) (.tmp 21) (.slice (some ⟨w3.heap.size, 0, none⟩) 0 0) (some ⟨g, 0, none⟩) bl bl rfl rfl rfl rfl w3.heap.size 0 [] (bcells bs) (Own.lit0 w3 5 1) (by rw [bcells_len, HBL.out]; omega) HSR.out (bcells_one _) (by omega) (by unfold maxLen; omega) (by simp) ?_
      intro A4 c4 w4 hown hg
      simp only [Nat.zero_add, List.nil_append] at hown
      have hk2 : Same w3 w4 := HKB.out.app (Own.lit0 w3 5 1) hg (fun g h1 h2 => by omega)
      have HOW := hid hown
      have HK4 := hid hk2
      clear hg hown hk2)
    refine (newReader_any w4 (fun _ => False) A4 bl c4 bs (HOW.out.sl (fun _ _ f => f)) (by omega)).mono ?_
    rintro e w5 ⟨rb, A5, c5, rfl, hrb, hR, hk5⟩
    have hsw := HK3.out.size
    have hsw4 := HK4.out.size
    have HK5 := hid (HK4.out.then hk5)
    have HR5 := hid hR
    have hrl := hR.top.lt
    clear hR hk5 HOW HKB HSR
    have hkb : Same w5 (w5.alloc (.cells #[] 5)) := (Keep.refl _ w5).alloc _
    have HSR := hid ((HSL.out.same HK5.out).src hkb)
    have HKB := hid hkb
    clear hkb
    go_wp2_with (first
      | (at_builtin
         refine EBy.law (.tmp 24) (.tmp 25) (.slice (some ⟨w5.heap.size, 0, none⟩) 0 0) (some ⟨g, 0, none⟩) bl bl rfl rfl rfl rfl w5.heap.size 0 [] (bcells bs) (Own.lit0 w5 5 1) (by rw [bcells_len, HBL.out]; omega) HSR.out (bcells_one _) (by omega) (by unfold maxLen; omega) (by simp) ?_
         intro A6 c6 w6 hown hg
         simp only [Nat.zero_add, List.nil_append] at hown
         have hk2 : Same w5 w6 := HKB.out.app (Own.lit0 w5 5 1) hg (fun g h1 h2 => by omega)
         have HK6 := hid hk2
         have HOA := hid (World.ownsRow.alloc hown (.cells #[.int .u8 be.toNat] 5))
         clear hg hown hk2)
      | (at_builtin
         refine EBy.law (.tmp 26) (.tmp 28) (.slice A6 bl c6) (some ⟨w6.heap.size, 0, none⟩) 1 1 rfl rfl rfl rfl w5.heap.size bl (bcells bs) [.int .u8 be.toNat] HOA.out rfl (fun _ => ⟨_, rfl, src_new rfl⟩) (by intro u hu; simp at hu; subst hu; rfl) (by omega) (by unfold maxLen; omega) (by have := HK6.out.size; simp; omega) ?_
         intro A7 c7 w7 hown hg
         have hk2 : Same w5 w7 := (HK6.out.alloc _).app HOA.out hg (fun g h1 h2 => by omega)
         have HOW := hid (show Own w7 w5.heap.size 5 1 (.slice A7 (bl + 1) c7) (bl + 1) (bcells (bs ++ [be])) by rw [bcells_app]; exact hown)
         have HK7 := hid hk2
         clear hg hown hk2))
    refine (newReader_any w7 (fun _ => False) A7 (bl + 1) c7 (bs ++ [be]) (HOW.out.sl (fun _ _ f => f)) (by omega)).mono ?_
    rintro e w8 ⟨qb, A8, c8, rfl, hqb, hQ, hk8⟩
    have hs7 := HK7.out.size
    have hrq : ¬ rb = qb := by omega
    have hrw : w.heap.size ≤ rb := by omega
    have hqw : w.heap.size ≤ qb := by omega
    have hk58 := HK7.out.then hk8
    have HI : Hid (RtI w rb qb (xs.map Tm.pt) be 0 w8) := hid ⟨A5, bs.length, c5, A8, (bs ++ [be]).length, c8,
      by rw [List.drop_zero, HBS.out]; exact ⟨HR5.out.top.keep hk58 (fun f => f), ((HR5.out.wide (Av' := fun i => i = qb) (fun i hi e => by omega)).same hk58).sl, HR5.out.cap, hrq⟩,
      by rw [List.drop_zero, HBS.out]; exact hQ.wide (fun i hi e => by omega), (HK3.out.then HK5.out).then hk58⟩
    clear hQ hk8 hk58 HOW HK7 HOA HK6 HKB HSR HSL HBL HBS HR5
    go_wp2
    go_loopw [39] (fun i wr => ∃ k : Nat, k ≤ m ∧ i = .int .i64 k ∧ RtI w rb qb (xs.map Tm.pt) be k wr) (fun i _ => m - (RowKit.intOf i).toNat)
    case atStart => exact ⟨0, by omega, rfl, HI.out⟩
    case round =>
      obtain ⟨k, hkm, rfl, A1, n1, c1, B1, m1, d1, hR, hQ, hK⟩ := hrel
      by_cases hlt : k < m
      · obtain ⟨x, hx⟩ := get_some (l := xs) (k := k) (by have := HLM.out; omega)
        have hok := H.out.ok x (List.mem_of_getElem? hx)
        have hel := H.out.el x (List.mem_of_getElem? hx)
        have hpx : (xs.map Tm.pt)[k]? = some x.pt := by simp [hx]
        have hdr := putAll_drop hpx
        have hdl := HDL.out k
        have hdl2 := HDL.out (k + 1)
        have HGR := hid (getT_put hok (putAll ((xs.map Tm.pt).drop (k + 1))))
        have HGQ := hid (getT_put hok (putAll ((xs.map Tm.pt).drop (k + 1)) ++ [be]))
        rw [hdr] at hR hQ hdl
        rw [List.append_assoc] at hQ
        generalize hrs : putAll ((xs.map Tm.pt).drop (k + 1)) = rest at *
        have HRS := hid hrs
        clear hrs
        obtain ⟨b, off, rfl, hb, q0, q1, q2, q3, q4⟩ := (H.out.same hK).at5 hx
        have hxm : x.m ≤ 1000000 := by have := hok.l; have := hel.len; simp only [Tm.pt] at *; omega
        have hk0 := hok.k0
        have hk4 := hok.k4
        simp only [Tm.pt] at hk0 hk4
        have HC1 := hid (fun W (hk : Same wr W) => read_any W rb (· = qb) A1 n1 c1 _ (hR.same hk) (by simp only; omega) x.k hk0 hk4)
        have HC4 := hid (fun W (hQ' : Rd W qb (· = rb) B1 m1 d1 ⟨putT x.pt ++ (rest ++ [be]), 0⟩) => read_any W qb (· = rb) B1 m1 d1 _ hQ' (by simp at hdl ⊢; omega) x.k hk0 hk4)
        have hgr := HGR.out
        have hgq := HGQ.out
        rw [show x.pt.k = x.k from rfl] at hgr hgq
        simp only [hgr, hgq] at HC1 HC4
        have HC2 := hid (fun W (hk : Same w W) => only_any W (fun _ => False) x (hel.same hk) hxm hk0 hk4)
        have HOL := hid (show (onlyT x.pt).l.length ≤ 1000000 by
          have := hok.l
          unfold onlyT
          split
          · simp
          · split
            · simp
            · split
              · exact this
              · simp)
        have hBX := (Blk.made wr 33 x.cells.toArray)
        have hbx := hBX.drew
        obtain ⟨b0, b1, b2, b3, b4⟩ := Tm.facts hbx
        have hka : Same wr ((wr.alloc (.cells x.cells.toArray 33)).drew) := ((Keep.refl _ wr).alloc _).drew
        have HKA := hid hka
        have HBX := hid hbx
        have HK := hid hK
        have HQ := hid (hQ.same hka)
        generalize x.pt = t at *
        have hrb9 : ¬ wr.heap.size = rb := by have := hR.top.lt; omega
        have hqb9 : ¬ wr.heap.size = qb := by have := hQ.top.lt; omega
        clear hx hok hel hpx hdr hdl hR hQ hK hgr hgq HGR HGQ hka hbx hBX
        obtain ⟨kk, n, bo, st, C, cm, cc, l⟩ := x
        simp only [Tm.cells] at q0 q1 q2 q3 q4 b0 b1 b2 b3 b4 HC1 HC4 HC2 HKA HBX HQ
        have hs0 : Hid (((wr.alloc (.cells #[.int .i64 kk, .int .i64 n, .bool bo, .string st, .slice C cm cc] 33)).drew).cell? ⟨wr.heap.size, 0, none⟩ = some (.int .i64 kk) ∧ ((wr.alloc (.cells #[.int .i64 kk, .int .i64 n, .bool bo, .string st, .slice C cm cc] 33)).drew).cell? ⟨wr.heap.size, 1, none⟩ = some (.int .i64 n) ∧ ((wr.alloc (.cells #[.int .i64 kk, .int .i64 n, .bool bo, .string st, .slice C cm cc] 33)).drew).cell? ⟨wr.heap.size, 2, none⟩ = some (.bool bo) ∧ ((wr.alloc (.cells #[.int .i64 kk, .int .i64 n, .bool bo, .string st, .slice C cm cc] 33)).drew).cell? ⟨wr.heap.size, 3, none⟩ = some (.string st) ∧ ((wr.alloc (.cells #[.int .i64 kk, .int .i64 n, .bool bo, .string st, .slice C cm cc] 33)).drew).cell? ⟨wr.heap.size, 4, none⟩ = some (.slice C cm cc)) := hid ⟨b0, b1, b2, b3, b4⟩
        clear b0 b1 b2 b3 b4
        go_wp2
        go_region_held3 (fun W => W.cell? ⟨wr.heap.size, 0, none⟩ = some (.int .i64 kk) ∧ W.cell? ⟨wr.heap.size, 1, none⟩ = some (.int .i64 n) ∧ W.cell? ⟨wr.heap.size, 2, none⟩ = some (.bool bo) ∧ W.cell? ⟨wr.heap.size, 3, none⟩ = some (.string st) ∧ W.cell? ⟨wr.heap.size, 4, none⟩ = some (.slice C cm cc))
          (first | exact hs0.out | exact hs4.out | exact hs5.out | exact hs6.out | exact hs7.out | exact hs8.out | exact hs9.out | go_keep)
          (first
            | (go_at_call 12; (with_reducible refine (HC1.out _ HKA.out).mono ?_); rintro e w4 ⟨A4', n4, c4', x1, rfl, hx1, ht1, hr4, hkk4⟩
               have HX1 := hid hx1
               have HT1 := hid ht1
               have HR4 := hid hr4
               have HQ4 := hid (HQ.out.keep hkk4 (fun i _ e => e))
               have hB4 := HBX.out.keep hkk4 hrb9
               have HKW4 := hid ((HK.out.then HKA.out).trans hkk4 (fun i hi e => by omega))
               have HCO4 := hid (HC2.out _ HKW4.out)
               have hs4 : Hid (w4.cell? ⟨wr.heap.size, 0, none⟩ = some (.int .i64 kk) ∧ w4.cell? ⟨wr.heap.size, 1, none⟩ = some (.int .i64 n) ∧ w4.cell? ⟨wr.heap.size, 2, none⟩ = some (.bool bo) ∧ w4.cell? ⟨wr.heap.size, 3, none⟩ = some (.string st) ∧ w4.cell? ⟨wr.heap.size, 4, none⟩ = some (.slice C cm cc)) := hid ⟨hB4.at_ 0, hB4.at_ 1, hB4.at_ 2, hB4.at_ 3, hB4.at_ 4⟩
               have HB4 := hid hB4
               clear hx1 ht1 hr4 hkk4 hB4)
            | (go_at_call 18; (with_reducible refine HCO4.out.mono ?_); rintro e w5 ⟨y, rfl, hy, hym, hyo, hkk5⟩
               have HKW5 := hid (HKW4.out.then hkk5)
               have hB5 := HB4.out.keep hkk5 (fun f => f)
               have hs5 : Hid (w5.cell? ⟨wr.heap.size, 0, none⟩ = some (.int .i64 kk) ∧ w5.cell? ⟨wr.heap.size, 1, none⟩ = some (.int .i64 n) ∧ w5.cell? ⟨wr.heap.size, 2, none⟩ = some (.bool bo) ∧ w5.cell? ⟨wr.heap.size, 3, none⟩ = some (.string st) ∧ w5.cell? ⟨wr.heap.size, 4, none⟩ = some (.slice C cm cc)) := hid ⟨hB5.at_ 0, hB5.at_ 1, hB5.at_ 2, hB5.at_ 3, hB5.at_ 4⟩
               have HB5 := hid hB5
               have HQ5 := hid (HQ4.out.same hkk5)
               have HR5 := hid (HR4.out.same hkk5)
               have hcs := same_any w5 _ _ x1 y (HT1.out.same hkk5) hyo (by
                 have h1 := HT1.out.len
                 have h2 := congrArg Tg.l HX1.out
                 simp only [Tm.pt] at h2
                 have := HOL.out
                 rw [← h2] at this
                 omega)
               rw [HX1.out, hy, sameT_self] at hcs
               have HCS5 := hid hcs
               clear hy hym hyo hkk5 hB5 hcs)
            | (go_at_call 11; (with_reducible refine HCS5.out.mono ?_); rintro e w6 ⟨rfl, hkk6⟩
               have HKW6 := hid (HKW5.out.then hkk6)
               have hB6 := HB5.out.keep hkk6 (fun f => f)
               have hs6 : Hid (w6.cell? ⟨wr.heap.size, 0, none⟩ = some (.int .i64 kk) ∧ w6.cell? ⟨wr.heap.size, 1, none⟩ = some (.int .i64 n) ∧ w6.cell? ⟨wr.heap.size, 2, none⟩ = some (.bool bo) ∧ w6.cell? ⟨wr.heap.size, 3, none⟩ = some (.string st) ∧ w6.cell? ⟨wr.heap.size, 4, none⟩ = some (.slice C cm cc)) := hid ⟨hB6.at_ 0, hB6.at_ 1, hB6.at_ 2, hB6.at_ 3, hB6.at_ 4⟩
               have HB6 := hid hB6
               have HQ6 := hid (HQ5.out.same hkk6)
               have HR6 := hid (HR5.out.same hkk6)
               have HCQ6 := hid (HC4.out _ HQ6.out)
               clear hkk6 hB6)
            | (go_at_call 12; (with_reducible refine HCQ6.out.mono ?_); rintro e w7 ⟨A7', n7, c7', x2, rfl, hx1, ht1, hr4, hkk4⟩
               have HX2 := hid hx1
               have HT2 := hid ht1
               have HQ7 := hid hr4
               have HR7 := hid (HR6.out.keep hkk4 (fun i _ e => e))
               have hB4 := HB6.out.keep hkk4 hqb9
               have HKW7 := hid (HKW6.out.trans hkk4 (fun i hi e => by omega))
               have HCO7 := hid (HC2.out _ HKW7.out)
               have hs7 : Hid (w7.cell? ⟨wr.heap.size, 0, none⟩ = some (.int .i64 kk) ∧ w7.cell? ⟨wr.heap.size, 1, none⟩ = some (.int .i64 n) ∧ w7.cell? ⟨wr.heap.size, 2, none⟩ = some (.bool bo) ∧ w7.cell? ⟨wr.heap.size, 3, none⟩ = some (.string st) ∧ w7.cell? ⟨wr.heap.size, 4, none⟩ = some (.slice C cm cc)) := hid ⟨hB4.at_ 0, hB4.at_ 1, hB4.at_ 2, hB4.at_ 3, hB4.at_ 4⟩
               have HB7 := hid hB4
               clear hx1 ht1 hr4 hkk4 hB4)
            | (go_at_call 18; (with_reducible refine HCO7.out.mono ?_); rintro e w8 ⟨y2, rfl, hy, hym, hyo, hkk5⟩
               have HKW8 := hid (HKW7.out.then hkk5)
               have hB5 := HB7.out.keep hkk5 (fun f => f)
               have hs8 : Hid (w8.cell? ⟨wr.heap.size, 0, none⟩ = some (.int .i64 kk) ∧ w8.cell? ⟨wr.heap.size, 1, none⟩ = some (.int .i64 n) ∧ w8.cell? ⟨wr.heap.size, 2, none⟩ = some (.bool bo) ∧ w8.cell? ⟨wr.heap.size, 3, none⟩ = some (.string st) ∧ w8.cell? ⟨wr.heap.size, 4, none⟩ = some (.slice C cm cc)) := hid ⟨hB5.at_ 0, hB5.at_ 1, hB5.at_ 2, hB5.at_ 3, hB5.at_ 4⟩
               have HB8 := hid hB5
               have HQ8 := hid (HQ7.out.same hkk5)
               have HR8 := hid (HR7.out.same hkk5)
               have hcs := same_any w8 _ _ x2 y2 (HT2.out.same hkk5) hyo (by
                 have h1 := HT2.out.len
                 have h2 := congrArg Tg.l HX2.out
                 simp only [Tm.pt] at h2
                 have := HOL.out
                 rw [← h2] at this
                 omega)
               rw [HX2.out, hy, sameT_self] at hcs
               have HCS8 := hid hcs
               clear hy hym hyo hkk5 hB5 hcs)
            | (go_at_call 11; (with_reducible refine HCS8.out.mono ?_); rintro e w9 ⟨rfl, hkk6⟩
               have HKW9 := hid (HKW8.out.then hkk6)
               have hB6 := HB8.out.keep hkk6 (fun f => f)
               have hs9 : Hid (w9.cell? ⟨wr.heap.size, 0, none⟩ = some (.int .i64 kk) ∧ w9.cell? ⟨wr.heap.size, 1, none⟩ = some (.int .i64 n) ∧ w9.cell? ⟨wr.heap.size, 2, none⟩ = some (.bool bo) ∧ w9.cell? ⟨wr.heap.size, 3, none⟩ = some (.string st) ∧ w9.cell? ⟨wr.heap.size, 4, none⟩ = some (.slice C cm cc)) := hid ⟨hB6.at_ 0, hB6.at_ 1, hB6.at_ 2, hB6.at_ 3, hB6.at_ 4⟩
               have HQ9 := hid (HQ8.out.same hkk6)
               have HR9 := hid (HR8.out.same hkk6)
               clear hkk6 hB6))
        all_goals
          have HZ : Hid (RtI w rb qb (xs.map Tm.pt) be (k + 1) w9) := hid ⟨_, _, _, _, _, _, by rw [HRS.out]; exact HR9.out, by rw [HRS.out]; exact HQ9.out, HKW9.out⟩
          go_wp2
          go_roundw
          case rel => exact ⟨k + 1, by omega, by go_num, HZ.out⟩
          case measure => simp [RowKit.intOf]; omega
      · have e1 : putAll ((xs.map Tm.pt).drop k) = [] := by rw [List.drop_eq_nil_of_le (by have := HLM.out; simp; omega)]; rfl
        rw [e1] at hR hQ
        have HC1 := hid (finish_any wr rb (· = qb) A1 n1 c1 _ hR (by simp))
        have HC2 := hid (finish_any wr qb (· = rb) B1 m1 d1 _ hQ (by simp))
        have HK := hid hK
        rw [show endE ⟨[], 0⟩ = 0 from rfl] at HC1
        rw [show endE ⟨[] ++ [be], 0⟩ = 2 from rfl] at HC2
        clear hR hQ hK e1
        go_wp2_with fail
        refine HC1.out.mono ?_
        rintro e w9 ⟨rfl, rfl⟩
        go_wp2_with fail
        refine HC2.out.mono ?_
        rintro e w9 ⟨rfl, rfl⟩
        go_wp2
        go_ret
        exact ⟨rfl, HK.out⟩
  · have hf' : fewB (xs.map Tm.pt) = false := by simpa using hf
    rw [hf'] at HF
    clear hf hf' HT
    go_enter Try.func5, Try.ntmps5
    go_wp2_with fail
    refine (awake_any w).mono ?_
    rintro e w1 ⟨rfl, hk1⟩
    have HF1 := hid (HF.out w1 hk1)
    have HK1 := hid hk1
    clear hk1 HF
    go_wp2_with fail
    refine HF1.out.mono ?_
    rintro e w2 ⟨rfl, hk2⟩
    have HK2 := hid (HK1.out.then hk2)
    clear hk2
    go_wp2_with fail
    refine (awake_any w2).mono ?_
    rintro e w3 ⟨rfl, hk3⟩
    go_wp2
    go_ret
    exact ⟨rfl, HK2.out.then hk3⟩
theorem wireRoundTrip_any (w : World) (B : Option Addr) (m d : Nat) (xs : List Tm) (h : Tr w (fun _ => False) B m xs) (hm : m ≤ 281474976710656) (b : Int) (h0 : 0 ≤ b) (h1 : b ≤ 255) :
    Calls Try.prog 5 #[.slice B m d, .int .u8 b] w fun e w' => e = .returned (.bool true) ∧ Same w w' := by
  have hb : ((b.toNat.toUInt8.toNat : Nat) : Int) = b := by rw [u8_small (by omega)]; omega
  have := wireRoundTrip_walk w B m d xs h hm b.toNat.toUInt8
  rwa [hb] at this
end Go.Proofs.Ytohgclbgjdpggaa

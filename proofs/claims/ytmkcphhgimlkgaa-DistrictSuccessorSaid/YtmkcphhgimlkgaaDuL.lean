import Derived.Test.YtmkcphhgimlkgaaDiK
import Derived.Test.YtmkcphhgimlkgaaDpR
import Derived.Test.YtmkcphhgimlkgaaDpM
import Derived.Test.YtmkcphhgimlkgaaDlNa
import Derived.Test.YtmkcphhgimlkgaaDlS
import Derived.Carry
import Derived.Deep.CutRange
import Derived.Deep.RegionHeld3
namespace Go.Proofs.Ytmkcphhgimlkgaa
open Go.RowKit

def upF (n : Nat) (S : List Int) (j : Int) : Bool := decide (0 ≤ j ∧ j < (n : Int)) && !(S.any (fun s => s == j))
theorem upF_snoc (n : Nat) (l : List Int) (s j : Int) : upF n (l ++ [s]) j = (upF n l j && !(j == s)) := by
  by_cases h : j = s
  · subst h; simp [upF]
  · have h1 : (s == j) = false := by simp; exact fun e => h e.symm
    have h2 : (j == s) = false := by simp [h]
    simp [upF, List.any_append, h1, h2]
set_option maxRecDepth 100000 in
set_option maxHeartbeats 16000000 in
theorem successor_walk (w : World) (c : CF) (hm : CM w c) (hf : Few c) (Q : Option Addr) (cq : Nat) (S : List Int) (hS : Sl w (fun _ => False) 1 Q S.length (icellsC S)) (hSn : S.length ≤ maxLen) (hSw : ∀ s ∈ S, (Lit.int .i64 s).wf = true) :
    Calls Try.prog 6 #[.agg c.cells.toArray, .slice Q S.length cq] w fun e w' => e = .returned (.bool true) ∧ Same w w' := by
  have hb0 := Blk.made w 27 c.cells.toArray
  have hw0 : Same w (w.alloc (.cells c.cells.toArray 27)) := (Keep.refl _ _).alloc _
  generalize hw1 : w.alloc (.cells c.cells.toArray 27) = w1 at *
  have HB := hid (fun W (hk : Same w1 W) => cfc (hb0.keep (S := fun _ => False) hk (fun f => f)))
  have HW := hid hw0
  have HPL : Hid (Calls Try.prog 10 #[.agg #[.int .i64 c.cen, .slice c.D c.dis.length c.cD, .slice c.E c.edg.length c.cE, .slice c.U c.uni.length c.cU, .slice c.P c.pla.length c.cP, .int .i64 c.h0, .int .i64 c.h1, .int .i64 c.h2, .int .i64 c.h3, .int .i64 c.h4, .int .i64 c.h5, .int .i64 c.h6, .int .i64 c.h7, .int .i64 c.h8, .int .i64 c.h9, .slice none 0 0]] w1 (PlayPost w1 c [])) := hid (played_any w1 c (hm.same hw0) hf none 0 [] (Sl.nil _ _ _ _) (by simp))
  unfold PlayPost at HPL
  have HAW := hid awake_any
  have HBB := hid hb0
  have HQS := hid hS
  have HSW := hid hSw
  clear hS hSw
  unfold maxLen at hSn
  have hbx := cfc hb0
  obtain ⟨c0, c1, c2, c3, c4, c5, c6, c7, c8, c9, c10, c11, c12, c13, c14, hg⟩ := hbx
  clear hb0 hw0 hm hf
  go_enter Try.func6, Try.ntmps6
  go_upto_region 1 with fail
  try simp only [CF.cells] at hw1
  try rw [hw1]
  go_wp2_with fail
  (with_reducible refine HPL.out.mono ?_)
  rintro e w2 (⟨rfl, hk2⟩ | ⟨hv, ha60, hd60, mb, tb, sb, A, cp, X, cx, rfl, hP, hk2⟩)
  · have HK2 := hid (HW.out.then hk2)
    clear hk2 c0 c1 c2 c3 c4 c5 c6 c7 c8 c9 c10 c11 c12 c13 c14 hg
    go_upto_region 2 with (refine wpList_store_row rfl _ (.tmp 6) (.tmp 22) rfl w2.heap.size zero16.toArray rfl rfl _ _ (Blk.made w2 36 zero16.toArray) (by kernel_rfl) rfl (one_toArray zero16_one) ?_)
    have hK : Same w2 ((w2.alloc (.cells zero16.toArray 36)).setRow w2.heap.size zero16.toArray) := ((Keep.refl _ w2).alloc _).trans (Keep.row _ _ _) (fun i hi e => by have e2 : i = w2.heap.size := e; omega)
    simp only [zero16] at hK ⊢
    generalize ((w2.alloc (.cells #[.int .i64 0, .slice none 0 0, .slice none 0 0, .slice none 0 0, .slice none 0 0, .int .i64 0, .int .i64 0, .int .i64 0, .int .i64 0, .int .i64 0, .int .i64 0, .int .i64 0, .int .i64 0, .int .i64 0, .int .i64 0, .slice none 0 0] 36)).setRow w2.heap.size #[.int .i64 0, .slice none 0 0, .slice none 0 0, .slice none 0 0, .slice none 0 0, .int .i64 0, .int .i64 0, .int .i64 0, .int .i64 0, .int .i64 0, .int .i64 0, .int .i64 0, .int .i64 0, .int .i64 0, .int .i64 0, .slice none 0 0]) = w3 at *
    have HK3 := hid (HK2.out.then hK)
    have HK23 := hid (show Same w2 w3 from hK)
    clear hK
    go_wp2_with fail
    (with_reducible refine (HAW.out _).mono ?_)
    rintro e w4 ⟨rfl, hk4⟩
    have HK4 := hid (HK3.out.then hk4)
    clear hk4
    go_wp2_with fail
    go_ret
    exact ⟨rfl, HK4.out⟩
  · have HK2 := hid (HW.out.then hk2)
    have HK12 := hid hk2
    have HL := hid (show w.heap.size ≤ mb ∧ w.heap.size ≤ tb ∧ w.heap.size ≤ sb from ⟨Nat.le_trans HW.out.size hP.mb, Nat.le_trans HW.out.size hP.tb, Nat.le_trans HW.out.size hP.sb⟩)
    have hd2 := hP.dm
    have HSB1 := hid (show w1.heap.size ≤ sb from hP.sb)
    have HSB2 := hid (show sb < w2.heap.size from hP.dm.tab.row.lt)
    have ht2 := hP.th
    clear hk2 hP c0 c1 c2 c3 c4 c5 c6 c7 c8 c9 c10 c11 c12 c13 c14 hg ha60
    obtain ⟨c0, c1, c2, c3, c4, c5, c6, c7, c8, c9, c10, c11, c12, c13, c14, hg⟩ := HB.out w2 HK12.out
    have HINI := hid hv
    clear hv
    generalize hLe : runD c [] (initL c.cen.toNat c.h3) = L at *
    have HLE := hid hLe
    clear hLe
    go_upto_region 2 with (refine wpList_store_row rfl _ (.tmp 6) (.tmp 22) rfl w2.heap.size (map16 c X L.length cx).toArray rfl rfl _ _ (Blk.made w2 36 zero16.toArray) (by kernel_rfl) rfl (one_toArray (map16_one _ _ _ _)) ?_)
    have hB3 := (Blk.made w2 36 zero16.toArray).row (map16 c X L.length cx).toArray
    have hK : Same w2 ((w2.alloc (.cells zero16.toArray 36)).setRow w2.heap.size (map16 c X L.length cx).toArray) := ((Keep.refl _ w2).alloc _).trans (Keep.row _ _ _) (fun i hi e => by have e2 : i = w2.heap.size := e; omega)
    simp only [zero16] at hB3 hK ⊢
    generalize ((w2.alloc (.cells #[.int .i64 0, .slice none 0 0, .slice none 0 0, .slice none 0 0, .slice none 0 0, .int .i64 0, .int .i64 0, .int .i64 0, .int .i64 0, .int .i64 0, .int .i64 0, .int .i64 0, .int .i64 0, .int .i64 0, .int .i64 0, .slice none 0 0] 36)).setRow w2.heap.size (map16 c X L.length cx).toArray) = w3 at *
    have HB3 := hid hB3
    have HK3 := hid (HK2.out.then hK)
    have HK23 := hid (show Same w2 w3 from hK)
    have HBX := hid (fun W (hk : Same w3 W) => HB.out W ((HK12.out.then hK).then hk))
    have HD3 := hid (hd2.same hK)
    have HT3 := hid (ht2.same hK)
    have hs9 := hd2.ok.small
    clear hB3 hK hd2 ht2 c0 c1 c2 c3 c4 c5 c6 c7 c8 c9 c10 c11 c12 c13 c14 hg
    have hvn := vnum_all HINI.out
    obtain ⟨⟨n1, n9, _, _⟩, _, _⟩ := hvn
    have hdur := vnum_dur HINI.out
    have hdu := vL_in hdur
    have HDUR := hid hdur
    obtain ⟨N, hN⟩ : ∃ N : Nat, c.cen = (N : Int) := ⟨c.cen.toNat, by omega⟩
    rw [hN] at n1 n9
    have HCN := hid hN
    have hLi : L = initL N c.h3 := by rw [← HLE.out, hN]; rfl
    have HLI := hid hLi
    have HDD := hid (fun W (hk : Keep (fun i => i = sb) w3 W) (ht : IsTable W tb sb L) => DM.late (lo := 0) HD3.out (HD3.out.dis.wide (fun i _ e => by rcases e with e | e; exact e; omega)) (Nat.zero_le _) (hk.wide (fun i _ e => .inl e)) ht HD3.out.ok)
    have HBK := hid (fun W (hk : Keep (fun i => i = sb) w3 W) => cfc ((HBB.out.keep (S := fun _ => False) (HK12.out.then HK23.out) (fun f => f)).keep hk (by have h1 := HSB1.out; have h2 := HBB.out.lt; omega)))
    have HT3s := hid (show sb < w3.heap.size from by have h1 := HSB2.out; have h2 := HK23.out.size; omega)
    clear hN hdur hLi
    by_cases hbig : 20 < (S.length : Int)
    · go_wp2_with fail
      (with_reducible refine (HAW.out _).mono ?_)
      rintro e w4 ⟨rfl, hk4⟩
      have HK4 := hid (HK3.out.then hk4)
      clear hk4
      go_wp2_with fail
      go_ret
      exact ⟨rfl, HK4.out⟩
    · have HSS := hid (fun W (hk : Keep (fun i => i = sb) w3 W) => ((HQS.out.old.same HK3.out).wide (Av' := fun i => i = sb) (fun i _ e => by have h1 := HL.out; omega)).keep hk (fun _ _ e => e))
      have HPR := hid (fun W (hk : Keep (fun i => i = sb) w3 W) (ht : IsTable W tb sb L) (k : Nat) => proposals_any W mb tb sb A cp c L (HDD.out W hk ht) k (c.h3 + 1) 0 (by decide) Q cq S (HSS.out W hk) (by omega))
      unfold PrsPost at HPR
      have c0 := (HBX.out w3 (Keep.refl _ _)).c0
      rw [HCN.out] at c0
      have hmm := @run_makeMap Try.prog
      obtain ⟨bu, hbu⟩ : ∃ b, b = w3.heap.size := ⟨_, rfl⟩
      have hm0 := (MBool.made w3).congr (f' := fun j => decide (0 ≤ j ∧ j < ((0 : Nat) : Int))) (fun j => by simp <;> omega)
      have hkm : Same w3 (w3.alloc (.map #[] 0)) := (Keep.refl _ _).alloc _
      rw [← hbu] at hm0
      go_upto_region 5 with fail
      rw [← hbu]
      clear hmm
      have HBU := hid hbu
      clear c0 hbu
      generalize (w3.alloc (.map #[] 0)) = w4 at *
      have HM0 := hid hm0
      have HKM := hid hkm
      have c0 := (HBK.out w4 (hkm.wide (fun _ _ f => f.elim))).c0
      rw [HCN.out] at c0
      clear hm0 hkm
      go_wp2_with fail
      clear c0
      go_loopw [38] (fun i wr => ∃ k : Nat, k ≤ N ∧ i = .int .i64 k ∧ Hid (MBool wr bu k (fun j => decide (0 ≤ j ∧ j < (k : Int))) ∧ Same w3 wr)) (fun i _ => N - (RowKit.intOf i).toNat)
      case atStart => exact ⟨0, by omega, rfl, hid ⟨HM0.out, HKM.out⟩⟩
      case round =>
        obtain ⟨k, hk, rfl, HI⟩ := hrel
        by_cases hlt : k < N
        · have hk1 : (k : Int) < (N : Int) := by omega
          go_wp2_with (first
            | (at_mapUpdate
               refine put_b rfl _ _ _ rfl bu k _ rfl HI.out.1 (by unfold maxLen; omega) (k : Int) rfl (wf_int (by omega) (by omega)) rfl ?_
               intro w5 hm5 hg5
               have HM5 := hid (hm5.congr (f' := fun j => decide (0 ≤ j ∧ j < ((k + 1 : Nat) : Int))) (fun j => by rw [Bool.eq_iff_iff]; simp only [Bool.or_eq_true, decide_eq_true_eq, beq_iff_eq]; omega))
               have HK5 := hid (HI.out.2.grown hg5 (fun g e h => by injection e with e; have h1 := HBU.out; omega))
               clear hm5 hg5))
          go_roundw
          case rel => first | exact ⟨k + 1, by omega, by go_num, hid ⟨HM5.out, HK5.out⟩⟩ | ((repeat apply Exists.intro); refine And.intro ?_ rfl; exact ⟨k + 1, by omega, by go_num, hid ⟨HM5.out, HK5.out⟩⟩)
          case measure => simp [RowKit.intOf]; omega
        · obtain rfl : k = N := by omega
          have hS20 : S.length ≤ 20 := by omega
          obtain ⟨wo, hwo⟩ : ∃ x, x = wr := ⟨_, rfl⟩
          subst hwo
          have HSl := hid (fun W (hk : Same w3 W) => HSS.out W (hk.wide (fun _ _ f => f.elim)))
          go_wp2_with fail
          go_loopw [46] (fun i wr => ∃ q : Nat, q ≤ S.length ∧ i = .int .i64 q ∧ Hid (MBool wr bu k (upF k (S.take q)) ∧ Same w3 wr)) (fun i _ => S.length - (RowKit.intOf i).toNat)
          case atStart => exact ⟨0, by omega, rfl, hid ⟨HI.out.1.congr (fun j => by simp [upF]), HI.out.2⟩⟩
          case round =>
            obtain ⟨q, hq, rfl, HJ⟩ := hrel
            by_cases hlq : q < S.length
            · obtain ⟨s, hs⟩ := get_some hlq
              have hq1 : (q : Int) < (S.length : Int) := by omega
              obtain ⟨b1, o1, rfl, _, hcell⟩ := ints_at (HSl.out wr HJ.out.2) hs
              have HTK := hid (take_snoc hs)
              have hwfs := HSW.out s (List.mem_of_getElem? hs)
              clear hs
              go_wp2_with (first
                | (at_delete
                   refine del_b rfl _ _ rfl bu k _ rfl HJ.out.1 s rfl hwfs ?_
                   intro w6 hm6 hg6
                   have HM6 := hid (hm6.congr (f' := upF k (S.take (q + 1))) (fun j => by rw [HTK.out, upF_snoc]))
                   have HK6 := hid (HJ.out.2.grown hg6 (fun g e h => by injection e with e; have h1 := HBU.out; omega))
                   clear hm6 hg6))
              go_roundw
              case rel => first | exact ⟨q + 1, by omega, by go_num, hid ⟨HM6.out, HK6.out⟩⟩ | ((repeat apply Exists.intro); refine And.intro ?_ rfl; exact ⟨q + 1, by omega, by go_num, hid ⟨HM6.out, HK6.out⟩⟩)
              case measure => simp [RowKit.intOf]; omega
            · obtain rfl : q = S.length := by omega
              have hJ := HJ.out
              rw [List.take_of_length_le (Nat.le_refl _)] at hJ
              have HJ2 := hid hJ
              clear hJ
              obtain ⟨wp, hwp⟩ : ∃ x, x = wr := ⟨_, rfl⟩
              subst hwp
              go_upto_region 15 with fail
              obtain ⟨sz, hml, hsz, hz⟩ := HJ2.out.1.len
              have HML := hid hml
              have HZ := hid hz
              clear hml hz
              by_cases hz0 : sz = 0
              · subst hz0
                go_wp2_with (first | (at_len; refine len_s rfl _ rfl bu 0 rfl HML.out ?_) | fail)
                (with_reducible refine (HAW.out _).mono ?_)
                rintro e w8 ⟨rfl, hk8⟩
                have HK8 := hid ((Keep.refl (fun _ => False) _).then hk8)
                clear hk8
                go_wp2_with fail
                go_ret
                exact ⟨rfl, (HK3.out.then HJ2.out.2).then HK8.out⟩
              · have hszb : ((sz : Int) == 0) = false := by simp; omega
                have hup : ∃ k0 : Nat, k0 < k ∧ inS S k0 = false := by
                  rcases HZ.out with h | ⟨_, j, hj⟩
                  · exact absurd h hz0
                  · simp only [upF, Bool.and_eq_true, decide_eq_true_eq] at hj
                    refine ⟨j.toNat, by omega, ?_⟩
                    rw [inS, show ((j.toNat : Nat) : Int) = j by omega]
                    simpa using hj.2
                have HUP := hid hup
                clear hup hz0 HZ
                have hmm := @run_makeMap Try.prog
                obtain ⟨bt, hbt⟩ : ∃ b, b = wp.heap.size := ⟨_, rfl⟩
                have hm0 := (MInt.made wp).congr (g' := takenC (expL k c.h3 S) S 0) (fun j => rfl)
                have hkm : Same w3 (wp.alloc (.map #[] 0)) := HJ2.out.2.alloc _
                have hmb := HJ2.out.1.keep ((Keep.refl (fun _ => False) wp).alloc (.map #[] 0)) (fun f => f)
                have hbb : bu < bt := by rw [hbt]; exact HJ2.out.1.lt
                rw [← hbt] at hm0
                go_upto_region 18 with (first | (at_len; refine len_s rfl _ rfl bu sz rfl HML.out ?_) | fail)
                rw [← hbt]
                clear hmm
                have HUT := hid (show ¬ bu = bt from by omega)
                have HBT := hid (show w3.heap.size ≤ bt from by rw [hbt]; exact HJ2.out.2.size)
                clear hbt
                have HT0 := hid (HD3.out.tab.keep hkm (fun f => f) (fun f => f))
                generalize (wp.alloc (.map #[] 0)) = w7 at *
                have HM7 := hid hm0
                have HB7 := hid hmb
                have HK7 := hid (hkm.wide (T := (fun i => i = sb)) (fun _ _ f => f.elim))
                have c0 := (HBK.out w7 (hkm.wide (fun _ _ f => f.elim))).c0
                rw [HCN.out] at c0
                clear hm0 hkm hmb
                go_wp2_with fail
                clear c0
                go_loopw [60] (fun i wr => ∃ q n2 : Nat, q ≤ k ∧ n2 ≤ q * 64 ∧ i = .int .i64 q ∧ Hid (MInt wr bt n2 (takenC (expL k c.h3 S) S q) ∧ MBool wr bu k (upF k S) ∧ IsTable wr tb sb L ∧ Keep (fun i => i = sb) w3 wr)) (fun i _ => k - (RowKit.intOf i).toNat)
                case atStart => exact ⟨0, 0, by omega, by omega, rfl, hid ⟨HM7.out, HB7.out, HT0.out, HK7.out⟩⟩
                case round =>
                  obtain ⟨q, n2, hq, hn2, rfl, HI⟩ := hrel
                  by_cases hlq : q < k
                  · have hq1 : (q : Int) < (k : Int) := by omega
                    have hupq : upF k S (q : Int) = !inS S q := by
                      rw [upF, show decide (0 ≤ (q : Int) ∧ (q : Int) < (k : Int)) = true from by simp; omega]; rfl
                    cases hin : inS S q
                    · rw [hin] at hupq
                      have hupq : upF k S (q : Int) = true := hupq
                      have HIN := hid hin
                      have hx3 := (HBK.out wr HI.out.2.2.2).c8
                      have hpr := HPR.out wr HI.out.2.2.2 HI.out.2.2.1 q
                      rw [HCN.out, HLI.out, show props (k : Int) c.h3 q (c.h3 + 1) 0 S (initL k c.h3) = expL k c.h3 S q from rfl, ← HLI.out] at hpr
                      have HPq := hid hpr
                      have hall := expL_all HDUR.out hlq hin
                      have hle := expL_le (n := k) (dur := c.h3) (S := S) q
                      have hbase := fun d => (show 0 ≤ takenC (expL k c.h3 S) S q d ∧ takenC (expL k c.h3 S) S q d ≤ 81 from ⟨taken_lo q d, by
                        have h1 := taken_hi (n := k) (dur := c.h3) (S := S) q d
                        have h2 : q * k ≤ 9 * 9 := Nat.mul_le_mul (by omega) (by omega)
                        omega⟩)
                      have hnext : ∀ d, takenC (expL k c.h3 S) S (q + 1) d = takenC (expL k c.h3 S) S q d + (cntD (expL k c.h3 S q) d : Int) := fun d => by rw [takenC, if_neg (by rw [HIN.out]; simp)]
                      have HNX := hid hnext
                      have HALL := hid hall
                      have HBASE := hid hbase
                      clear hin hpr hall hbase hnext
                      generalize hLq : expL k c.h3 S q = L1 at *
                      have HMq := hid HI.out.1
                      obtain ⟨T1, hT1⟩ : ∃ T, T = takenC (expL k c.h3 S) S (q + 1) := ⟨_, rfl⟩
                      rw [← hT1] at HNX
                      have HT1 := hid hT1
                      clear hT1
                      generalize hT0 : takenC (expL k c.h3 S) S q = T0 at *
                      clear hLq hT0
                      have hd1 : 1 ≤ c.h3 := hdu.1
                      have hd2 : c.h3 ≤ 1048576 := hdu.2
                      obtain ⟨wq, hwq⟩ : ∃ x, x = wr := ⟨_, rfl⟩
                      subst hwq
                      go_wp2_with (first
                        | (at_lookup; refine look_b rfl _ _ rfl bu k _ rfl HI.out.2.1 (q : Int) rfl (wf_int (by omega) (by omega)) true hupq ?_)
                        | fail)
                      (with_reducible refine HPq.out.mono ?_)
                      rintro e w8 ⟨B, dd, rfl, hs8, hd8, hk8⟩
                      have hbsb : ¬ bt = sb := by have h1 := HBT.out; have h2 := HT3s.out; omega
                      have hbsu : ¬ bu = sb := by have h1 := HBU.out; have h2 := HT3s.out; omega
                      have hm8 := HMq.out.keep hk8 (fun e => hbsb e)
                      have HM8 := hid (hm8.congr (g' := fun d => T0 d + (cntD (L1.take 0) d : Int)) (fun d => by simp [cntD]))
                      have HU8 := hid (HI.out.2.1.keep hk8 (fun e => hbsu e))
                      have HT8 := hid hd8.tab
                      have HK8 := hid (HI.out.2.2.2.trans hk8 (fun _ _ e => e))
                      have hbt0 : bt < wq.heap.size := HMq.out.lt
                      have HS8 := hid (fun W (hk : Keep (fun i => i = bt) w8 W) => hs8.keep hk (fun i _ e => by have e2 : i = bt := e; show i < wq.heap.size; omega))
                      have HT9 := hid (fun W (hk : Keep (fun i => i = bt) w8 W) => HT8.out.keep hk (fun e => by have h1 := HD3.out.tab.top.lt; have h2 := HBT.out; omega) (fun e => hbsb e.symm))
                      clear hs8 hd8 hk8 hm8 hx3
                      go_wp2_with fail
                      go_loopw [75] (fun i wr => ∃ j m2 : Nat, j ≤ L1.length ∧ m2 ≤ q * 64 + j ∧ i = .int .i64 j ∧ Hid (MInt wr bt m2 (fun d => T0 d + (cntD (L1.take j) d : Int)) ∧ Keep (fun i => i = bt) w8 wr)) (fun i _ => L1.length - (RowKit.intOf i).toNat)
                      case atStart => exact ⟨0, n2, by omega, by omega, rfl, hid ⟨HM8.out, Keep.refl _ _⟩⟩
                      case round =>
                        obtain ⟨j, m2, hj, hm2, rfl, HJ⟩ := hrel
                        by_cases hlj : j < L1.length
                        · obtain ⟨x, hx⟩ := get_some hlj
                          obtain ⟨b1, o1, rfl, hrow⟩ := cmds_row (HS8.out wr HJ.out.2) hx
                          have hj1 : (j : Int) < (L1.length : Int) := by omega
                          have HRW := hid hrow
                          obtain ⟨hx8, hx0, hxn⟩ := HALL.out x (List.mem_of_getElem? hx)
                          have HX8 := hid hx8
                          have HCS := hid (fun d => cntD_snoc hx d)
                          have hc0 := cntD_le (L1.take j) x.2.1
                          have hc1 : (L1.take j).length ≤ j := by rw [List.length_take]; omega
                          obtain ⟨v, hv⟩ : ∃ v : Int, T0 x.2.1 + (cntD (L1.take j) x.2.1 : Int) = v := ⟨_, rfl⟩
                          have hv0 : 0 ≤ v := by have h1 := HBASE.out x.2.1; omega
                          have hv1 : v ≤ 200 := by have h1 := HBASE.out x.2.1; omega
                          have HV := hid hv
                          clear hrow hx hx8 hc0 hc1 hv
                          go_upto_region 25 with (first
                            | (refine wpList_load_mid rfl _ (.tmp 77) rfl _ _ rfl (cmdV x.1 x.2.1 q x.2.2) _ HRW.out Try.underlying52 rfl (by kernel_rfl) ?_)
                            | (refine wpList_store_row rfl _ (.tmp 15) (.tmp 78) rfl wr.heap.size (cmdV x.1 x.2.1 q x.2.2).toArray rfl rfl _ _ (Blk.made wr 52 (cmdV 0 0 0 0).toArray) (by kernel_rfl) rfl (one_toArray (cmdV_one _ _ _ _)) ?_))
                          have hn1 := newC_same wr x.1 x.2.1 q x.2.2
                          have hn2 := newC_blk wr x.1 x.2.1 q x.2.2
                          unfold newC at hn1 hn2
                          have hn3 : ∀ V : World, (wr.alloc (.cells (cmdV 0 0 0 0).toArray 52)).setRow wr.heap.size (cmdV x.1 x.2.1 q x.2.2).toArray = V → True := fun _ _ => trivial
                          clear hn3
                          rw [show (cmdV 0 0 0 0).toArray = #[.int .i64 0, .int .i64 0, .int .i64 0, .int .i64 0, .int .i64 0, .string ⟨#[]⟩, .slice none 0 0, .int .i64 0, .int .i64 0, .int .i64 0, .int .i64 0, .int .i64 0, .int .i64 0, .int .i64 0, .int .i64 0, .int .i64 0, .int .i64 0, .int .i64 0, .int .i64 0] from rfl] at hn1 hn2
                          generalize ((wr.alloc (.cells #[.int .i64 0, .int .i64 0, .int .i64 0, .int .i64 0, .int .i64 0, .string ⟨#[]⟩, .slice none 0 0, .int .i64 0, .int .i64 0, .int .i64 0, .int .i64 0, .int .i64 0, .int .i64 0, .int .i64 0, .int .i64 0, .int .i64 0, .int .i64 0, .int .i64 0, .int .i64 0] 52)).setRow wr.heap.size (cmdV x.1 x.2.1 q x.2.2).toArray) = wa at *
                          have HN1 := hid (HJ.out.2.then hn1)
                          have HN2 := hid hn2
                          have y0 : wa.cell? ⟨wr.heap.size, 0, none⟩ = some (.int .i64 x.1) := hn2.at_ 0
                          rw [HX8.out] at y0
                          have y7 : wa.cell? ⟨wr.heap.size, 7, none⟩ = some (.int .i64 x.2.1) := hn2.at_ 7
                          have HMa := hid (HJ.out.1.keep hn1 (fun f => f))
                          clear hn1 hn2
                          go_wp2_with (first
                            | (at_lookup; refine look_i rfl _ _ rfl bt m2 _ rfl HMa.out x.2.1 rfl (wf_int (by omega) (by omega)) v HV.out ?_)
                            | (at_mapUpdate
                               refine put_i rfl _ _ _ rfl bt m2 _ rfl HMa.out (by unfold maxLen; omega) x.2.1 rfl (wf_int (by omega) (by omega)) (v + 1) (wf_int (by omega) (by omega)) rfl ?_
                               intro w9 hm9 hg9
                               have HM9 := hid (hm9.congr (g' := fun d => T0 d + (cntD (L1.take (j + 1)) d : Int)) (fun d => by
                                 have h1 := HCS.out d
                                 by_cases e : d = x.2.1
                                 · subst e; rw [h1, if_pos rfl]; have h2 := HV.out; simp only [if_pos]; omega
                                 · rw [if_neg e, h1, if_neg (fun f => e f.symm)]; simp))
                               have HK9 := hid (HN1.out.grown hg9 (fun g e h => by injection e with e; exact e.symm))
                               clear hm9 hg9))
                          go_roundw
                          case rel => exact ⟨j + 1, m2 + 1, by omega, by omega, by go_num, hid ⟨HM9.out, HK9.out⟩⟩
                          case measure => simp [RowKit.intOf]; omega
                        · obtain rfl : j = L1.length := by omega
                          go_wp2_with fail
                          go_roundw
                          case rel =>
                            have HFIN := hid (show MInt wr bt m2 T1 ∧ MBool wr bu k (upF k S) ∧ IsTable wr tb sb L ∧ Keep (fun i => i = sb) w3 wr from
                              ⟨HJ.out.1.congr (fun d => by rw [List.take_of_length_le (Nat.le_refl _), HNX.out]), HU8.out.keep HJ.out.2 (fun e => HUT.out e), HT9.out wr HJ.out.2, HK8.out.trans HJ.out.2 (fun i hi e => by have e2 : i = bt := e; have h1 := HBT.out; omega)⟩)
                            rw [HT1.out] at HFIN
                            first
                              | exact ⟨q + 1, m2, by omega, by omega, by go_num, HFIN⟩
                              | ((repeat apply Exists.intro); refine And.intro ?_ rfl; exact ⟨q + 1, m2, by omega, by omega, by go_num, HFIN⟩)
                          case measure => simp [RowKit.intOf]; omega
                    · rw [hin] at hupq
                      have hupq : upF k S (q : Int) = false := hupq
                      have HIN := hid hin
                      clear hin
                      go_wp2_with (first
                        | (at_lookup; refine look_b rfl _ _ rfl bu k _ rfl HI.out.2.1 (q : Int) rfl (wf_int (by omega) (by omega)) false hupq ?_)
                        | fail)
                      go_roundw
                      case rel =>
                        first
                          | exact ⟨q + 1, n2, by omega, by omega, by go_num, hid ⟨HI.out.1.congr (fun j => by rw [takenC, if_pos HIN.out, Int.add_zero]), HI.out.2⟩⟩
                          | ((repeat apply Exists.intro); refine And.intro ?_ rfl; exact ⟨q + 1, n2, by omega, by omega, by go_num, hid ⟨HI.out.1.congr (fun j => by rw [takenC, if_pos HIN.out, Int.add_zero]), HI.out.2⟩⟩)
                      case measure => simp [RowKit.intOf]; omega
                  · obtain rfl : q = k := by omega
                    obtain ⟨wz, hwz⟩ : ∃ x, x = wr := ⟨_, rfl⟩
                    subst hwz
                    have hone := fun d : Nat => fun hd : d < q => (let ⟨k0, h1, h2⟩ := HUP.out; taken_all (S := S) HDUR.out h1 h2 d hd)
                    have HONE := hid hone
                    have HMZ := hid HI.out.1
                    generalize takenC (expL q c.h3 S) S q = T1 at *
                    have c0 := (HBK.out wz HI.out.2.2.2).c0
                    rw [HCN.out] at c0
                    clear hone
                    go_wp2_with fail
                    clear c0
                    go_loopw [91] (fun i wr => ∃ d : Nat, d ≤ q ∧ i = .int .i64 d ∧ Hid (Same wz wr)) (fun i _ => q - (RowKit.intOf i).toNat)
                    case atStart => exact ⟨0, by omega, rfl, hid (Keep.refl _ _)⟩
                    case round =>
                      obtain ⟨d, hd, rfl, HJ⟩ := hrel
                      by_cases hld : d < q
                      · have hd1 : (d : Int) < (q : Int) := by omega
                        have h1 := HONE.out d hld
                        have HMd := hid (HMZ.out.keep HJ.out (fun f => f))
                        have H1 := hid h1
                        clear h1
                        go_wp2_with (first
                          | (at_lookup; refine look_i rfl _ _ rfl bt n2 _ rfl HMd.out (d : Int) rfl (wf_int (by omega) (by omega)) 1 H1.out ?_)
                          | fail)
                        go_roundw
                        case rel => first | exact ⟨d + 1, by omega, by go_num, HJ⟩ | ((repeat apply Exists.intro); refine And.intro ?_ rfl; exact ⟨d + 1, by omega, by go_num, HJ⟩)
                        case measure => simp [RowKit.intOf]; omega
                      · have hd1 : (q : Int) ≤ (d : Int) := by omega
                        go_wp2_with fail
                        (with_reducible refine (HAW.out _).mono ?_)
                        rintro e w8 ⟨rfl, hk8⟩
                        have HK8 := hid (HJ.out.then hk8)
                        clear hk8
                        go_wp2_with fail
                        go_ret
                        exact ⟨rfl, (HK3.out.trans (HI.out.2.2.2.then HK8.out) (fun i hi e => by have e2 : i = sb := e; have h1 := HL.out; omega))⟩
end Go.Proofs.Ytmkcphhgimlkgaa

import Derived.Test.YtmkcphhgimlkgaaDiK
import Derived.Test.YtmkcphhgimlkgaaDpS
import Derived.Deep.CutRange
import Derived.Deep.RegionHeld3
namespace Go.Proofs.Ytmkcphhgimlkgaa
open Go.RowKit

def askV (ce : Int) (Q : Option Addr) (m cq : Nat) (now again : Int) : List Value := [.int .i64 ce, .slice Q m cq, .int .i64 now, .int .i64 again]
theorem cmds_row {w : World} {Av : Nat → Prop} {A : Option Addr} {ce : Int} {L : List (Int × Int × Int)} (h : Sl w Av 19 A L.length (cmds ce L)) {k : Nat} {x : Int × Int × Int} (hx : L[k]? = some x) : ∃ b off, A = some ⟨b, off, none⟩ ∧ w.rangeAt b (off + k * 19) (cmdV x.1 x.2.1 ce x.2.2) := by
  have hk := (List.getElem?_eq_some_iff.1 hx).1
  obtain ⟨b, off, e, _, _, hr⟩ := h.at_ (by omega)
  refine ⟨b, off, e, fun j u hu => ?_⟩
  have hj := (List.getElem?_eq_some_iff.1 hu).1
  have := hr (k * 19 + j) u (by rw [cmds_get ce L k j hj, hx]; exact hu)
  rwa [Nat.add_assoc]
/-- a command in a block of its own -/
def newC (w : World) (a b ce e : Int) : World := (w.alloc (.cells (cmdV 0 0 0 0).toArray 52)).setRow w.heap.size (cmdV a b ce e).toArray
theorem newC_same (w : World) (a b ce e : Int) : Same w (newC w a b ce e) := ((Keep.refl _ w).alloc _).trans (Keep.row _ _ _) (fun i hi e => by have e2 : i = w.heap.size := e; omega)
theorem newC_blk (w : World) (a b ce e : Int) : Blk (newC w a b ce e) w.heap.size 52 (cmdV a b ce e).toArray := (Blk.made w 52 (cmdV 0 0 0 0).toArray).row _
set_option maxRecDepth 100000 in
set_option maxHeartbeats 16000000 in
theorem succ_walk (w : World) (c : CF) (hm : CM w c) (hf : Few c) (Z : Option Addr) (cz : Nat) (acts : List AK) (hz : Sl w (fun _ => False) 5 Z acts.length (akcells acts)) (hzn : acts.length ≤ maxLen) (ce : Int) (Q : Option Addr) (cq : Nat) (S : List Int) (hS : Sl w (fun _ => False) 1 Q S.length (icellsC S)) (hSn : S.length ≤ maxLen) (now again : Int) (a1 : again ≤ 9223372036854775807) :
    Calls Try.prog 5 #[.agg (map16 c Z acts.length cz).toArray, .agg (askV ce Q S.length cq now again).toArray] w fun e w' => e = .returned (.bool true) ∧ Same w w' := by
  have hb0 := (Blk.made w 30 (map16 c Z acts.length cz).toArray).alloc (.cells (askV ce Q S.length cq now again).toArray 32)
  have hq0 := Blk.made (w.alloc (.cells (map16 c Z acts.length cz).toArray 30)) 32 (askV ce Q S.length cq now again).toArray
  rw [World.size_alloc] at hq0
  have hw0 : Same w ((w.alloc (.cells (map16 c Z acts.length cz).toArray 30)).alloc (.cells (askV ce Q S.length cq now again).toArray 32)) := ((Keep.refl _ _).alloc _).alloc _
  generalize hw1 : ((w.alloc (.cells (map16 c Z acts.length cz).toArray 30)).alloc (.cells (askV ce Q S.length cq now again).toArray 32)) = w1 at *
  have HB := hid hb0
  have HW := hid hw0
  have HPL := hid (played_any w1 c (hm.same hw0) hf Z cz acts (hz.same hw0) hzn)
  unfold PlayPost at HPL
  have HAW := hid awake_any
  have HQB := hid (fun W (hk : Same w1 W) => hq0.keep (S := fun _ => False) hk (fun f => f))
  have HQS := hid hS
  clear hq0 hS
  unfold maxLen at hSn
  clear hb0 hw0 hm hf hz hzn
  go_enter Try.func5, Try.ntmps5
  go_upto_region 1 with fail
  try rw [hw1]
  go_wp2_with (refine wpList_load_row rfl _ (.tmp 2) rfl w.heap.size rfl _ (map16 c Z acts.length cz).toArray (0, 0) _ HB.out Try.underlying30 rfl (by kernel_rfl) ?_)
  (with_reducible refine HPL.out.mono ?_)
  rintro e w2 (⟨rfl, hk2⟩ | ⟨hv, ha60, hd60, mb, tb, sb, A, cp, X, cx, rfl, hP, hk2⟩)
  · have HK2 := hid (HW.out.then hk2)
    clear hk2
    go_upto_region 2 with (refine wpList_store_row rfl _ (.tmp 6) (.tmp 19) rfl w2.heap.size zero16.toArray rfl rfl _ _ (Blk.made w2 36 zero16.toArray) (by kernel_rfl) rfl (one_toArray zero16_one) ?_)
    have hK : Same w2 ((w2.alloc (.cells zero16.toArray 36)).setRow w2.heap.size zero16.toArray) := ((Keep.refl _ w2).alloc _).trans (Keep.row _ _ _) (fun i hi e => by have e2 : i = w2.heap.size := e; omega)
    simp only [zero16] at hK ⊢
    generalize ((w2.alloc (.cells #[.int .i64 0, .slice none 0 0, .slice none 0 0, .slice none 0 0, .slice none 0 0, .int .i64 0, .int .i64 0, .int .i64 0, .int .i64 0, .int .i64 0, .int .i64 0, .int .i64 0, .int .i64 0, .int .i64 0, .int .i64 0, .slice none 0 0] 36)).setRow w2.heap.size #[.int .i64 0, .slice none 0 0, .slice none 0 0, .slice none 0 0, .slice none 0 0, .int .i64 0, .int .i64 0, .int .i64 0, .int .i64 0, .int .i64 0, .int .i64 0, .int .i64 0, .int .i64 0, .int .i64 0, .int .i64 0, .slice none 0 0]) = w3 at *
    have HK3 := hid (HK2.out.then hK)
    clear hK
    go_wp2_with fail
    (with_reducible refine (HAW.out _).mono ?_)
    rintro e w4 ⟨rfl, hk4⟩
    have HK4 := hid (HK3.out.then hk4)
    clear hk4
    go_wp2_with fail
    go_ret
    exact ⟨rfl, HK4.out⟩
  · have HK2 := hid (HW.out.then hk2)
    have HL := hid (show w.heap.size ≤ mb ∧ w.heap.size ≤ tb ∧ w.heap.size ≤ sb from ⟨Nat.le_trans HW.out.size hP.mb, Nat.le_trans HW.out.size hP.tb, Nat.le_trans HW.out.size hP.sb⟩)
    have hd2 := hP.dm
    have HL1 := hid (show w1.heap.size ≤ mb ∧ w1.heap.size ≤ tb ∧ w1.heap.size ≤ sb from ⟨hP.mb, hP.tb, hP.sb⟩)
    have ht2 := hP.th
    have HINI := hid hv
    have HK12 := hid hk2
    clear hk2 hP
    generalize runD c acts (initL c.cen.toNat c.h3) = L at *
    go_upto_region 2 with (refine wpList_store_row rfl _ (.tmp 6) (.tmp 19) rfl w2.heap.size (map16 c X L.length cx).toArray rfl rfl _ _ (Blk.made w2 36 zero16.toArray) (by kernel_rfl) rfl (one_toArray (map16_one _ _ _ _)) ?_)
    have hB3 := (Blk.made w2 36 zero16.toArray).row (map16 c X L.length cx).toArray
    have hK : Same w2 ((w2.alloc (.cells zero16.toArray 36)).setRow w2.heap.size (map16 c X L.length cx).toArray) := ((Keep.refl _ w2).alloc _).trans (Keep.row _ _ _) (fun i hi e => by have e2 : i = w2.heap.size := e; omega)
    simp only [zero16] at hB3 hK ⊢
    generalize ((w2.alloc (.cells #[.int .i64 0, .slice none 0 0, .slice none 0 0, .slice none 0 0, .slice none 0 0, .int .i64 0, .int .i64 0, .int .i64 0, .int .i64 0, .int .i64 0, .int .i64 0, .int .i64 0, .int .i64 0, .int .i64 0, .int .i64 0, .slice none 0 0] 36)).setRow w2.heap.size (map16 c X L.length cx).toArray) = w3 at *
    have HB3 := hid hB3
    have HK3 := hid (HK2.out.then hK)
    have HK23 := hid (show Same w2 w3 from hK)
    have HD3 := hid (hd2.same hK)
    have HT3 := hid (ht2.same hK)
    have hs9 := hd2.ok.small
    clear hB3 hK hd2 ht2
    have HQK := hid (fun W (hk : Keep (fun i => i = sb) w3 W) => (HQB.out w3 (HK12.out.then (HK23.out))).keep hk (by have h1 := HL1.out; have h4 := (HQB.out w1 (Keep.refl _ _)).lt; omega))
    have q1 : w3.cell? ⟨w.heap.size + 1, 1, none⟩ = some (.slice Q S.length cq) := (HQK.out w3 (Keep.refl _ _)).at_ 1
    by_cases hbig : 20 < (S.length : Int)
    · go_wp2_with fail
      (with_reducible refine (HAW.out _).mono ?_)
      rintro e w4 ⟨rfl, hk4⟩
      have HK4 := hid (HK3.out.then hk4)
      clear hk4
      go_wp2_with fail
      go_ret
      exact ⟨rfl, HK4.out⟩
    · have HSS := hid (fun W (hk : Keep (fun i => i = sb) w3 W) => ((HQS.out.old.same HK3.out).wide (Av' := fun i => i = sb) (fun i _ e => by have h1 := HL.out; omega)).keep hk (fun _ _ e => e))
      have HPR := hid (fun W l (h : DM W mb tb sb A cp c l) hs => proposals_any W mb tb sb A cp c l h ce now again a1 Q cq S hs (by omega))
      have HAP := hid (fun W l (h : DM W mb tb sb A cp c l) kd ds ep => apply_any W mb tb sb A cp c l h kd ds ce ep now)
      have HSU := hid (fun j x => succeeds c.cen c.h3 ce now again S L HD3.out.ok (j := j) (x := x))
      have HTN := hid (fun x hx => then_not c.cen c.h3 ce now again S L HD3.out.ok (x := x) hx)
      unfold PrsPost at HPR
      unfold ApPost at HAP
      have q0 : w3.cell? ⟨w.heap.size + 1, 0, none⟩ = some (.int .i64 ce) := (HQK.out w3 (Keep.refl _ _)).at_ 0
      have q2 : w3.cell? ⟨w.heap.size + 1, 2, none⟩ = some (.int .i64 now) := (HQK.out w3 (Keep.refl _ _)).at_ 2
      have q3 : w3.cell? ⟨w.heap.size + 1, 3, none⟩ = some (.int .i64 again) := (HQK.out w3 (Keep.refl _ _)).at_ 3
      have HPR1 := hid (HPR.out w3 L HD3.out (HSS.out w3 (Keep.refl _ _)))
      have hL1le : (props c.cen c.h3 ce now again S L).length ≤ 64 := by
        unfold props
        split
        · exact Nat.le_trans (propsTo_le _) hs9
        · simp
      generalize hL1 : props c.cen c.h3 ce now again S L = L1 at *
      have HL1e := hid hL1
      clear hL1
      go_wp2_with fail
      (with_reducible refine HPR1.out.mono ?_)
      rintro e w4 ⟨B, d, rfl, hs4, hd4, hk4⟩
      have HK4 := hid hk4
      have HD4 := hid hd4
      have hsb3 : sb < w3.heap.size := HD3.out.tab.row.lt
      have HS4 := hid (fun W (hk : Keep (fun i => i = sb) w4 W) => hs4.keep hk (fun i _ e => by have e2 : i = sb := e; show i < w3.heap.size; omega))
      clear hs4 hd4 hk4 q0 q1 q2 q3
      go_wp2_with fail
      go_loopw [45] (fun i wr => ∃ k : Nat, k ≤ L1.length ∧ i = .int .i64 k ∧ Hid (DM wr mb tb sb A cp c (appl c.cen c.h3 ce now L (L1.take k)) ∧ Keep (fun i => i = sb) w4 wr)) (fun i _ => L1.length - (RowKit.intOf i).toNat)
      case atStart => exact ⟨0, by omega, rfl, hid ⟨HD4.out, Keep.refl _ _⟩⟩
      case round =>
        obtain ⟨k, hk, rfl, HI⟩ := hrel
        have HK4r := hid (HK4.out.trans HI.out.2 (fun _ _ e => e))
        by_cases hlt : k < L1.length
        · obtain ⟨x, hx⟩ := get_some hlt
          obtain ⟨b1, o1, rfl, hrow⟩ := cmds_row (HS4.out wr HI.out.2) hx
          have hk1 : (k : Int) < (L1.length : Int) := by omega
          have HRW := hid hrow
          have HOKx := hid (HSU.out k x hx)
          have HSTEP := hid (show appl c.cen c.h3 ce now L (L1.take (k + 1)) = (doD c.cen c.h3 (appl c.cen c.h3 ce now L (L1.take k)) x.1 x.2.1 ce x.2.2 now).1 from by rw [take_snoc hx, appl_snoc])
          clear hrow hx
          go_upto_region 8 with (first
            | (refine wpList_load_mid rfl _ (.tmp 47) rfl _ _ rfl (cmdV x.1 x.2.1 ce x.2.2) _ HRW.out Try.underlying52 rfl (by kernel_rfl) ?_)
            | (refine wpList_store_row rfl _ (.tmp 10) (.tmp 48) rfl wr.heap.size (cmdV x.1 x.2.1 ce x.2.2).toArray rfl rfl _ _ (Blk.made wr 52 (cmdV 0 0 0 0).toArray) (by kernel_rfl) rfl (one_toArray (cmdV_one _ _ _ _)) ?_))
          have hn1 := newC_same wr x.1 x.2.1 ce x.2.2
          have hn2 := newC_blk wr x.1 x.2.1 ce x.2.2
          unfold newC at hn1 hn2
          have hn3 : ∀ V : World, (wr.alloc (.cells (cmdV 0 0 0 0).toArray 52)).setRow wr.heap.size (cmdV x.1 x.2.1 ce x.2.2).toArray = V → True := fun _ _ => trivial
          clear hn3
          rw [show (cmdV 0 0 0 0).toArray = #[.int .i64 0, .int .i64 0, .int .i64 0, .int .i64 0, .int .i64 0, .string ⟨#[]⟩, .slice none 0 0, .int .i64 0, .int .i64 0, .int .i64 0, .int .i64 0, .int .i64 0, .int .i64 0, .int .i64 0, .int .i64 0, .int .i64 0, .int .i64 0, .int .i64 0, .int .i64 0] from rfl] at hn1 hn2
          generalize ((wr.alloc (.cells #[.int .i64 0, .int .i64 0, .int .i64 0, .int .i64 0, .int .i64 0, .string ⟨#[]⟩, .slice none 0 0, .int .i64 0, .int .i64 0, .int .i64 0, .int .i64 0, .int .i64 0, .int .i64 0, .int .i64 0, .int .i64 0, .int .i64 0, .int .i64 0, .int .i64 0, .int .i64 0] 52)).setRow wr.heap.size (cmdV x.1 x.2.1 ce x.2.2).toArray) = wa at *
          have HN1 := hid hn1
          have HN2 := hid hn2
          have HAPx := hid (HAP.out wa _ (HI.out.1.same hn1) x.1 x.2.1 x.2.2)
          rw [HOKx.out] at HAPx
          have q2 : wa.cell? ⟨w.heap.size + 1, 2, none⟩ = some (.int .i64 now) := (HQK.out wa (HK4r.out.then hn1)).at_ 2
          clear hn1 hn2
          go_wp2_with (refine wpList_load_row rfl _ (.tmp 10) rfl wr.heap.size rfl _ (cmdV x.1 x.2.1 ce x.2.2).toArray (0, 0) _ HN2.out Try.underlying52 rfl (by kernel_rfl) ?_)
          (with_reducible refine HAPx.out.mono ?_)
          rintro e w5 ⟨rfl, hd5, hk5⟩
          have HD5 := hid hd5
          have HK5 := hid ((HI.out.2.then HN1.out).trans hk5 (fun _ _ e => e))
          clear hd5 hk5 q2
          go_wp2_with fail
          go_roundw
          case rel => exact ⟨k + 1, by omega, by go_num, hid ⟨by rw [HSTEP.out]; exact HD5.out, HK5.out⟩⟩
          case measure => simp [RowKit.intOf]; omega
        · obtain rfl : k = L1.length := by omega
          have hI := HI.out
          rw [List.take_of_length_le (Nat.le_refl _)] at hI
          have HI2 := hid hI
          have HPR2 := hid (HPR.out wr _ hI.1 (HSS.out wr HK4r.out))
          have hL2le : (props c.cen c.h3 ce now again S (appl c.cen c.h3 ce now L L1)).length ≤ 64 := by
            have h1 := hI.1.ok.small
            unfold props
            split
            · exact Nat.le_trans (propsTo_le _) h1
            · simp
          have q0 : wr.cell? ⟨w.heap.size + 1, 0, none⟩ = some (.int .i64 ce) := (HQK.out wr HK4r.out).at_ 0
          have q1 : wr.cell? ⟨w.heap.size + 1, 1, none⟩ = some (.slice Q S.length cq) := (HQK.out wr HK4r.out).at_ 1
          have q2 : wr.cell? ⟨w.heap.size + 1, 2, none⟩ = some (.int .i64 now) := (HQK.out wr HK4r.out).at_ 2
          have q3 : wr.cell? ⟨w.heap.size + 1, 3, none⟩ = some (.int .i64 again) := (HQK.out wr HK4r.out).at_ 3
          generalize props c.cen c.h3 ce now again S (appl c.cen c.h3 ce now L L1) = L2 at *
          obtain ⟨wo, hwo⟩ : ∃ x, x = wr := ⟨_, rfl⟩
          subst hwo
          clear hI
          go_wp2_with fail
          (with_reducible refine HPR2.out.mono ?_)
          rintro e w6 ⟨B6, d6, rfl, hs6, hd6, hk6⟩
          have HK6 := hid (HI2.out.2.trans hk6 (fun _ _ e => e))
          have HS6 := hid (fun W (hk : Same w6 W) => hs6.same hk)
          have HS46 := hid (fun W (hk : Same w6 W) => HS4.out W ((HI2.out.2.trans hk6 (fun _ _ e => e)).then hk))
          clear hs6 hd6 hk6 q0 q1 q2 q3
          go_wp2_with fail
          go_loopw [67] (fun i wr => ∃ k : Nat, k ≤ L2.length ∧ i = .int .i64 k ∧ Hid (Same w6 wr)) (fun i _ => L2.length - (RowKit.intOf i).toNat)
          case atStart => exact ⟨0, by omega, rfl, hid (Keep.refl _ _)⟩
          case round =>
            obtain ⟨k, hk, rfl, HI⟩ := hrel
            by_cases hlt : k < L2.length
            · obtain ⟨x, hx⟩ := get_some hlt
              obtain ⟨b1, o1, rfl, hrow⟩ := cmds_row (HS6.out wr HI.out) hx
              have hk1 : (k : Int) < (L2.length : Int) := by omega
              have HRW := hid hrow
              obtain ⟨hx10, hxn⟩ := HTN.out x (List.mem_of_getElem? hx)
              have HXN := hid hxn
              have HX10 := hid hx10
              clear hrow hx hxn hx10
              go_upto_region 14 with (first
                | (refine wpList_load_mid rfl _ (.tmp 69) rfl _ _ rfl (cmdV x.1 x.2.1 ce x.2.2) _ HRW.out Try.underlying52 rfl (by kernel_rfl) ?_)
                | (refine wpList_store_row rfl _ (.tmp 12) (.tmp 70) rfl wr.heap.size (cmdV x.1 x.2.1 ce x.2.2).toArray rfl rfl _ _ (Blk.made wr 52 (cmdV 0 0 0 0).toArray) (by kernel_rfl) rfl (one_toArray (cmdV_one _ _ _ _)) ?_))
              have hn1 := newC_same wr x.1 x.2.1 ce x.2.2
              have hn2 := newC_blk wr x.1 x.2.1 ce x.2.2
              unfold newC at hn1 hn2
              have hn3 : ∀ V : World, (wr.alloc (.cells (cmdV 0 0 0 0).toArray 52)).setRow wr.heap.size (cmdV x.1 x.2.1 ce x.2.2).toArray = V → True := fun _ _ => trivial
              clear hn3
              rw [show (cmdV 0 0 0 0).toArray = #[.int .i64 0, .int .i64 0, .int .i64 0, .int .i64 0, .int .i64 0, .string ⟨#[]⟩, .slice none 0 0, .int .i64 0, .int .i64 0, .int .i64 0, .int .i64 0, .int .i64 0, .int .i64 0, .int .i64 0, .int .i64 0, .int .i64 0, .int .i64 0, .int .i64 0, .int .i64 0] from rfl] at hn1 hn2
              generalize ((wr.alloc (.cells #[.int .i64 0, .int .i64 0, .int .i64 0, .int .i64 0, .int .i64 0, .string ⟨#[]⟩, .slice none 0 0, .int .i64 0, .int .i64 0, .int .i64 0, .int .i64 0, .int .i64 0, .int .i64 0, .int .i64 0, .int .i64 0, .int .i64 0, .int .i64 0, .int .i64 0, .int .i64 0] 52)).setRow wr.heap.size (cmdV x.1 x.2.1 ce x.2.2).toArray) = wa at *
              have HN1 := hid (HI.out.then hn1)
              have HN2 := hid hn2
              have c0 : wa.cell? ⟨wr.heap.size, 0, none⟩ = some (.int .i64 x.1) := hn2.at_ 0
              rw [HX10.out] at c0
              obtain ⟨wq, hwq⟩ : ∃ x, x = wr := ⟨_, rfl⟩
              subst hwq
              clear hn1 hn2
              go_wp2_with fail
              go_loopw [76] (fun i wr => ∃ j : Nat, j ≤ L1.length ∧ i = .int .i64 j ∧ Hid (Same wa wr)) (fun i _ => L1.length - (RowKit.intOf i).toNat)
              case atStart => exact ⟨0, by omega, rfl, hid (Keep.refl _ _)⟩
              case round =>
                obtain ⟨j, hj, rfl, HJ⟩ := hrel
                by_cases hltj : j < L1.length
                · obtain ⟨y, hy⟩ := get_some hltj
                  obtain ⟨b2, o2, rfl, hrow⟩ := cmds_row (HS46.out wr (HN1.out.then HJ.out)) hy
                  have hj1 : (j : Int) < (L1.length : Int) := by omega
                  have HRWy := hid hrow
                  have hyn := HXN.out y (List.mem_of_getElem? hy)
                  clear hrow hy
                  go_upto_region 19 with (first
                    | (refine wpList_load_mid rfl _ (.tmp 78) rfl _ _ rfl (cmdV y.1 y.2.1 ce y.2.2) _ HRWy.out Try.underlying52 rfl (by kernel_rfl) ?_)
                    | (refine wpList_store_row rfl _ (.tmp 14) (.tmp 79) rfl wr.heap.size (cmdV y.1 y.2.1 ce y.2.2).toArray rfl rfl _ _ (Blk.made wr 52 (cmdV 0 0 0 0).toArray) (by kernel_rfl) rfl (one_toArray (cmdV_one _ _ _ _)) ?_))
                  have hn1 := newC_same wr y.1 y.2.1 ce y.2.2
                  have hn2 := newC_blk wr y.1 y.2.1 ce y.2.2
                  unfold newC at hn1 hn2
                  have hn3 : ∀ V : World, (wr.alloc (.cells (cmdV 0 0 0 0).toArray 52)).setRow wr.heap.size (cmdV y.1 y.2.1 ce y.2.2).toArray = V → True := fun _ _ => trivial
                  clear hn3
                  rw [show (cmdV 0 0 0 0).toArray = #[.int .i64 0, .int .i64 0, .int .i64 0, .int .i64 0, .int .i64 0, .string ⟨#[]⟩, .slice none 0 0, .int .i64 0, .int .i64 0, .int .i64 0, .int .i64 0, .int .i64 0, .int .i64 0, .int .i64 0, .int .i64 0, .int .i64 0, .int .i64 0, .int .i64 0, .int .i64 0] from rfl] at hn1 hn2
                  generalize ((wr.alloc (.cells #[.int .i64 0, .int .i64 0, .int .i64 0, .int .i64 0, .int .i64 0, .string ⟨#[]⟩, .slice none 0 0, .int .i64 0, .int .i64 0, .int .i64 0, .int .i64 0, .int .i64 0, .int .i64 0, .int .i64 0, .int .i64 0, .int .i64 0, .int .i64 0, .int .i64 0, .int .i64 0] 52)).setRow wr.heap.size (cmdV y.1 y.2.1 ce y.2.2).toArray) = wb at *
                  have HM1 := hid (HJ.out.then hn1)
                  have d0 : wb.cell? ⟨wr.heap.size, 0, none⟩ = some (.int .i64 y.1) := hn2.at_ 0
                  have d7 : wb.cell? ⟨wr.heap.size, 7, none⟩ = some (.int .i64 y.2.1) := hn2.at_ 7
                  have c7 : wb.cell? ⟨wq.heap.size, 7, none⟩ = some (.int .i64 x.2.1) := (HN2.out.keep (HJ.out.then hn1) (fun f => f)).at_ 7
                  clear hn1 hn2 c0
                  by_cases g1 : y.1 = 10
                  · have g2 : (y.2.1 == x.2.1) = false := by simp; exact fun e => hyn ⟨g1, e⟩
                    have g3 : (y.1 == 10) = true := by simp [g1]
                    clear g1 hyn
                    go_wp2_with fail
                    go_roundw
                    case rel => exact ⟨j + 1, by omega, by go_num, hid HM1.out⟩
                    case measure => simp [RowKit.intOf]; omega
                  · have g3 : (y.1 == 10) = false := by simp [g1]
                    clear g1 hyn
                    go_wp2_with fail
                    go_roundw
                    case rel => exact ⟨j + 1, by omega, by go_num, hid HM1.out⟩
                    case measure => simp [RowKit.intOf]; omega
                · have hj1 : (L1.length : Int) ≤ (j : Int) := by omega
                  clear c0
                  go_wp2_with fail
                  go_roundw
                  case rel => exact ⟨k + 1, by omega, by go_num, hid (HN1.out.then HJ.out)⟩
                  case measure => simp [RowKit.intOf]; omega
            · have hk1 : (L2.length : Int) ≤ (k : Int) := by omega
              go_wp2_with fail
              (with_reducible refine (HAW.out _).mono ?_)
              rintro e w8 ⟨rfl, hk8⟩
              have HK8 := hid (HI.out.then hk8)
              clear hk8
              go_wp2_with fail
              go_ret
              exact ⟨rfl, HK3.out.trans (((HK4.out.trans HK6.out (fun _ _ e => e)).then HK8.out)) (fun i hi e => by have e2 : i = sb := e; have h1 := HL.out; omega)⟩
end Go.Proofs.Ytmkcphhgimlkgaa

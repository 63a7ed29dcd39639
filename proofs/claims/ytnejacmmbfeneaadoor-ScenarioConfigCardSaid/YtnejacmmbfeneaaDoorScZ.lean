import Derived.Test.YtnejacmmbfeneaaDoorScFb
import Derived.Test.YtnejacmmbfeneaaDoorScGn
import Derived.Test.YtnejacmmbfeneaaDoorScHb
import Derived.Test.YtnejacmmbfeneaaDoorNsE
namespace Go.Proofs.YtnejacmmbfeneaaDoor
open Go.RowKit

theorem wpListW_load_midC {P : Program} {ops : Array Oper} {rest : List Oper} {op : Oper} {a : Act} {w : World} {Q : Exit → Act → World → Prop} (hw : Region.wanted op (yielded ops a.tmps) = true) (ty : TypeId) (x : Operand) (ho : op.op = .load ty x)
    (b o : Nat) (hx : a.eval x = .pointer (some ⟨b, o, none⟩)) (cs : List Value) (d : TypeDesc) (hc : w.rangeAt b o cs)
    (hu : P.underlying ty = some d) (hd : d.isRow = true) (hi : (P.info? ty).map (·.size) = some cs.length)
    (h : wpList P ops Q rest (a.put op.dst (.agg cs.toArray)) w) : wpList P ops Q (op :: rest) a w :=
  wpList_step fun K hK => by
    rw [if_pos hw]
    exact wp_load_mid ty x ho b o hx cs d hc hu hd hi (hK _ _ h)
theorem blk_range {w : World} {g : Nat} {t : TypeId} {cs : List Value} (h : Blk w g t cs.toArray) : w.rangeAt g 0 cs := fun j v hv => by
  rw [Nat.zero_add, h.at_ j, List.getElem?_toArray]; exact hv
/-- As many nodes as the list holds. -/
theorem len_all {L : List Int} {N : Nat} (hN : N ≤ 4096) (h1 : ∀ x ∈ L, 0 ≤ x ∧ x < N) (h2 : ∀ i : Nat, i < N → (i : Int) ∈ L) : (elemsW (ofW L)).length = N := by
  have e : elemsW (ofW L) = (List.range 4096).filter (fun i => decide (i < N)) := by
    unfold elemsW
    refine List.filter_congr fun m hm => ?_
    rw [ofW_mem L m (List.mem_range.1 hm)]
    by_cases h : m < N
    · simp [h, h2 m h]
    · have : (m : Int) ∉ L := fun hx => by have := h1 _ hx; omega
      simp [h, this]
  have go : ∀ K, N ≤ K → ((List.range K).filter (fun i => decide (i < N))).length = N := by
    intro K hK
    induction K with
    | zero => have : N = 0 := by omega
              subst this; rfl
    | succ K ih =>
      rw [List.range_succ, List.filter_append, List.length_append]
      by_cases h : N ≤ K
      · rw [ih h]
        have : ¬ K < N := by omega
        simp [this]
      · have hKN : N = K + 1 := by omega
        have : K < N := by omega
        subst hKN
        have e2 : (List.range K).filter (fun i => decide (i < K + 1)) = List.range K := List.filter_eq_self.2 (fun a ha => by have := List.mem_range.1 ha; simp; omega)
        rw [e2]; simp
  rw [e]; exact go 4096 hN

theorem one_elem {a : Nat} (ha : a < 4096) : elemsI (ofW [(a : Int)]) = [(a : Int)] := by
  have e : elemsW (ofW [(a : Int)]) = (List.range 4096).filter (fun i => decide (i = a)) := by
    unfold elemsW
    refine List.filter_congr fun m hm => ?_
    rw [ofW_mem _ m (List.mem_range.1 hm)]
    by_cases h : m = a
    · simp [h]
    · have : ¬ (m : Int) = (a : Int) := by omega
      simp [h, this]
  have go : ∀ K, (List.range K).filter (fun i => decide (i = a)) = if a < K then [a] else [] := by
    intro K
    induction K with
    | zero => simp
    | succ K ih =>
      rw [List.range_succ, List.filter_append, ih]
      by_cases h : a < K
      · have : ¬ K = a := by omega
        have h2 : a < K + 1 := by omega
        simp [h, h2, this]
      · by_cases h3 : K = a
        · subst h3; simp
        · have h2 : ¬ a < K + 1 := by omega
          simp [h, h2, h3]
  rw [elemsI, e, go, if_pos ha]; rfl
set_option maxRecDepth 100000 in
set_option maxHeartbeats 4000000 in
theorem config_any (W : World) (hT : Tab W) (h0 : 0 < W.heap.size) (n c s u : Int) (s0 : 0 ≤ s) (s1 : s ≤ 18446744073709551615) :
    Calls Tryd.prog 3 #[.int .i64 n, .int .i64 c, .agg #[.int .u64 s, .int .i64 u]] W fun e w' => e = .returned (.bool true) ∧ Same W w' := by
  have hz := Blk.made W 24 #[.int .u64 s, .int .i64 u]
  have HK := hid ((Keep.refl (fun _ => False) W).alloc (.cells #[.int .u64 s, .int .i64 u] 24))
  have HT := hid hT
  have H0 := hid h0
  have HRA := hid (fun w => random_any w n c u s s0 s1)
  have HTO := hid (fun w => town_any w n c u s s0 s1)
  clear hT h0
  by_cases hok : okN n c u
  · obtain ⟨N, C, U, rfl, rfl, rfl, g1, g2, g3, g4, g5⟩ := okN_nat hok
    have HOK := hid hok
    clear hok
    go_enter Tryd.func3, Tryd.ntmps3
    go_upto_region 1 with fail
    generalize (W.alloc (.cells #[.int .u64 s, .int .i64 U] 24)) = w1 at *
    have HZ := hid hz
    have f0 : w1.cell? ⟨W.heap.size, 0, none⟩ = some (.int .u64 s) := hz.at_ 0
    have f1 : w1.cell? ⟨W.heap.size, 1, none⟩ = some (.int .i64 U) := hz.at_ 1
    clear hz
    go_wp2_with fail
    (with_reducible refine (HRA.out _).mono ?_)
    rintro e w2 hP
    obtain ⟨_, he, hk2⟩ := hP
    obtain ⟨cf, he, hcm, his⟩ := he HOK.out
    have HIS := hid (show TownIs cf N C U s from his)
    have HK2 := hid (HK.out.then hk2)
    have HZ2 := hid (HZ.out.keep hk2 (fun f => f))
    subst he
    clear f0 f1 HZ HK his
    go_upto_region 2 with (refine wpList_store_row rfl _ (.tmp 7) (.tmp 21) rfl w2.heap.size cf.cells.toArray rfl rfl _ _ (Blk.made w2 30 z15.toArray) (by kernel_rfl) rfl (one_toArray (CF.one cf)) ?_)
    have hb3 := (Blk.made w2 30 z15.toArray).row cf.cells.toArray
    have hk3 : Same w2 ((w2.alloc (.cells z15.toArray 30)).setRow w2.heap.size cf.cells.toArray) := ((Keep.refl _ w2).alloc _).trans (Keep.row _ _ _) (fun i hi e => by have e2 : i = w2.heap.size := e; omega)
    simp only [z15] at hb3 hk3 ⊢
    generalize ((w2.alloc (.cells #[.int .i64 0, .slice none 0 0, .slice none 0 0, .slice none 0 0, .slice none 0 0, .int .i64 0, .int .i64 0, .int .i64 0, .int .i64 0, .int .i64 0, .int .i64 0, .int .i64 0, .int .i64 0, .int .i64 0, .int .i64 0] 30)).setRow w2.heap.size cf.cells.toArray) = w3 at *
    have HB3 := hid hb3
    have HC3 := hid (hcm.same hk3)
    have HK3 := hid (HK2.out.then hk3)
    have hz3 := HZ2.out.keep hk3 (fun f => f)
    have HZ3 := hid hz3
    have f0 : w3.cell? ⟨W.heap.size, 0, none⟩ = some (.int .u64 s) := hz3.at_ 0
    have f1 : w3.cell? ⟨W.heap.size, 1, none⟩ = some (.int .i64 U) := hz3.at_ 1
    clear hb3 hk3 hz3 HK2 HZ2 hcm hk2
    go_wp2_with fail
    (with_reducible refine (HTO.out _).mono ?_)
    rintro e w4 hP
    obtain ⟨_, he, hk4⟩ := hP
    obtain ⟨cg, he, hcm, his⟩ := he HOK.out
    have HIT := hid (show TownIs cg N C U s from his)
    have HK4 := hid (HK3.out.then hk4)
    have HB4 := hid (HB3.out.keep hk4 (fun f => f))
    have HC4 := hid (HC3.out.same hk4)
    have HZ4 := hid (HZ3.out.keep hk4 (fun f => f))
    subst he
    clear f0 f1 HB3 HK3 HC3 HZ3 his hk4
    go_upto_region 3 with (refine wpList_store_row rfl _ (.tmp 9) (.tmp 31) rfl w4.heap.size cg.cells.toArray rfl rfl _ _ (Blk.made w4 30 z15.toArray) (by kernel_rfl) rfl (one_toArray (CF.one cg)) ?_)
    have hb5 := (Blk.made w4 30 z15.toArray).row cg.cells.toArray
    have hk5 : Same w4 ((w4.alloc (.cells z15.toArray 30)).setRow w4.heap.size cg.cells.toArray) := ((Keep.refl _ w4).alloc _).trans (Keep.row _ _ _) (fun i hi e => by have e2 : i = w4.heap.size := e; omega)
    simp only [z15] at hb5 hk5 ⊢
    generalize ((w4.alloc (.cells #[.int .i64 0, .slice none 0 0, .slice none 0 0, .slice none 0 0, .slice none 0 0, .int .i64 0, .int .i64 0, .int .i64 0, .int .i64 0, .int .i64 0, .int .i64 0, .int .i64 0, .int .i64 0, .int .i64 0, .int .i64 0] 30)).setRow w4.heap.size cg.cells.toArray) = w5 at *
    have HB5 := hid hb5
    have HB45 := hid (HB4.out.keep hk5 (fun f => f))
    have HC5 := hid (HC4.out.same hk5)
    have HZ5 := hid (HZ4.out.keep hk5 (fun f => f))
    have HK5 := hid (HK4.out.then hk5)
    have HSA := hid (show Calls Tryd.prog 6 #[.agg cf.cells.toArray, .agg cg.cells.toArray] w5 (fun e w' => e = .returned (.bool true) ∧ Same w5 w') from same_conf w5 cf cg HC5.out (hcm.same hk5) (HIS.out.alike HIT.out) (HIS.out.short g1 g3 g4 g5))
    clear hb5 hk5 HK4 HB4 HC4 HZ4 hcm
    go_upto_region 7 with (first
      | (refine wpListW_load_midC rfl _ (.tmp 7) rfl w2.heap.size 0 rfl cf.cells _ (blk_range HB45.out) Tryd.underlying30 rfl (by kernel_rfl) ?_)
      | (refine wpListW_load_midC rfl _ (.tmp 9) rfl w4.heap.size 0 rfl cg.cells _ (blk_range HB5.out) Tryd.underlying30 rfl (by kernel_rfl) ?_)
      | ((with_reducible refine HSA.out.mono ?_); rintro e w6 ⟨rfl, hk6⟩; have HK6 := hid hk6; clear hk6))
    have HB6 := hid (HB45.out.keep HK6.out (fun f => f))
    have HC6 := hid (HC5.out.same HK6.out)
    have HZ6 := hid (HZ5.out.keep HK6.out (fun f => f))
    have HKW6 := hid (HK5.out.then HK6.out)
    have c2 : w6.cell? ⟨w2.heap.size, 2, none⟩ = some (.slice cf.E cf.edg.length cf.cE) := (HB6.out.at_ 2).trans rfl
    have HSH := hid (HIS.out.short g1 g3 g4 g5)
    have HEA := hid (HIS.out.edges (show 1 ≤ N by omega))
    clear HB45 HB5 HC5 HZ5 HK5 HSA HK6
    have hel : cf.edg.length ≤ 16384 := by
      rw [HIS.out.2.2.1]
      have := (edg_ok (show 1 ≤ N by omega) s).2
      omega
    have HNG := hid (newG_any w6 N cf.E cf.cE cf.edg (by omega) (by omega) HC6.out.edg hel)
    have HEL := hid hel
    clear hel
    go_wp2_with fail
    (with_reducible refine HNG.out.mono ?_)
    rintro e w7 ⟨hP, _, hk7⟩
    obtain ⟨gg, E7, cE7, po, pi, he, hg7⟩ := hP HEA.out
    have HG7 := hid hg7
    have HB7 := hid (HB6.out.keep hk7 (fun f => f))
    have HC7 := hid (HC6.out.same hk7)
    have HZ7 := hid (HZ6.out.keep hk7 (fun f => f))
    have HKW7 := hid (HKW6.out.then hk7)
    have HRI := hid (show Calls Tryd.prog 9 #[.agg cf.cells.toArray] w7 (fun e w' => e = .returned (.int .i64 0) ∧ Same w7 w') from (right_any w7 cf HC7.out).mono (fun e w' h => by rw [HIS.out.right g1 g2 g3 g4 g5] at h; exact h))
    subst he
    clear c2 HB6 HC6 HZ6 HKW6 hg7 hk7 HNG
    go_upto_region 10 with (first
      | (refine wpListW_load_midC rfl _ (.tmp 7) rfl w2.heap.size 0 rfl cf.cells _ (blk_range HB7.out) Tryd.underlying30 rfl (by kernel_rfl) ?_)
      | ((with_reducible refine HRI.out.mono ?_); rintro e w8 ⟨rfl, hk8⟩; have HK8 := hid hk8; clear hk8))
    have HG8 := hid (HG7.out.same HK8.out)
    have HKW8 := hid (HKW7.out.then HK8.out)
    have f0 : w8.cell? ⟨W.heap.size, 0, none⟩ = some (.int .u64 s) := (HZ7.out.keep HK8.out (fun f => f)).at_ 0
    have hm0 : 0 ≤ s % (N : Int) := Int.emod_nonneg _ (by omega)
    have hm1 : s % (N : Int) < (N : Int) := Int.emod_lt_of_pos _ (by omega)
    have hN0 : (N = 0) = False := by simp; omega
    have hl1 : (1 : Int) ≤ (N : Int) := by omega
    have hl64 : (N : Int) ≤ 64 := by omega
    clear HB7 HC7 HZ7 HKW7 HRI HG7
    generalize hma : s % (N : Int) = m at *
    have HMA := hid hma
    go_wp2_with fail
    obtain ⟨a, ha⟩ : ∃ a : Nat, m = a := ⟨_, (Int.toNat_of_nonneg hm0).symm⟩
    subst ha
    have haN : a < N := by omega
    have hka := (Keep.refl (fun _ => False) w8).alloc (.cells #[.int .i64 (a : Int)] 3)
    have HOF := hid (show Calls Tryd.prog 11 #[.slice (some ⟨w8.heap.size, 0, none⟩) 1 1] (w8.alloc (.cells #[.int .i64 (a : Int)] 3)) (SetPost (w8.alloc (.cells #[.int .i64 (a : Int)] 3)) (ofW [(a : Int)])) from of_any (w8.alloc (.cells #[.int .i64 (a : Int)] 3)) (fun _ => False) (some ⟨w8.heap.size, 0, none⟩) [(a : Int)] 1 (Sl.of_blk (n := 1) (size := 1) (Blk.made w8 3 #[.int .i64 (a : Int)]) rfl (fun f => f)) (show (1 : Nat) ≤ 1000000 by decide))
    have HKa := hid (HKW8.out.then hka)
    have HGa := hid (HG8.out.same hka)
    clear hka f0 hm0 hm1 HG8 HKW8
    (with_reducible refine HOF.out.mono ?_)
    rintro e w9 ⟨v9, rfl, hs9, hk9⟩
    have HS9 := hid hs9
    have HG9 := hid (HGa.out.same hk9)
    have HK9 := hid (HKa.out.then hk9)
    clear hs9 hk9 HGa HKa HOF
    have HRC := hid (reach_any w9 (HT.out.below HK9.out.below H0.out) (Nat.lt_of_lt_of_le H0.out HK9.out.size) gg N cf.edg E7 cE7 po pi HG9.out (by omega) HEL.out (fun e he => by
      rw [HIS.out.2.2.1] at he
      have := (edg_ok (show 1 ≤ N by omega) s).1 e he
      obtain ⟨p1, p2, p3, p4⟩ := this
      exact ⟨p1, p2, by omega⟩) v9 (ofW [(a : Int)]) HS9.out a (one_elem (by omega)) (by omega) (by omega))
    go_wp2_with fail
    (with_reducible refine HRC.out.mono ?_)
    rintro e w10 ⟨L, ⟨v10, rfl, hs10, hk10⟩, hal, hcl, hrg⟩
    have HLN := hid (show (elemsW (ofW L)).length = N from len_all (by omega) hrg (fun i hi => by
      refine closed_all (n := N) (by omega) s (fun i => (i : Int) ∈ L) haN hal (fun e he i j hi hj hm => ?_) i hi
      obtain ⟨t, ht⟩ := List.getElem?_of_mem hm
      have := hcl t (i : Int) (List.getElem?_eq_some_iff.1 ht).1 ht e (by rw [HIS.out.2.2.1]; exact he) hi
      rwa [hj] at this))
    have hle := len_any w10 v10 (ofW L) hs10
    rw [HLN.out] at hle
    have HLE := hid hle
    have HK10 := hid (HK9.out.then hk10)
    clear hle hs10 hk10 hal hcl hrg HRC HS9 HG9 HK9
    go_wp2_with fail
    (with_reducible refine HLE.out.mono ?_)
    rintro e w11 ⟨rfl, hk11⟩
    have HK11 := hid (HK10.out.then hk11)
    clear hk11 HK10 HLE
    go_wp2_with (go_at_call 7; (with_reducible refine (awake_any _).mono ?_); rintro e w12 ⟨rfl, hk12⟩; have HK12 := hid (HK11.out.then hk12); clear hk12)
    go_ret
    exact ⟨rfl, HK12.out⟩
  · have HOK := hid hok
    clear hok
    go_enter Tryd.func3, Tryd.ntmps3
    go_upto_region 1 with fail
    generalize (W.alloc (.cells #[.int .u64 s, .int .i64 u] 24)) = w1 at *
    have HZ := hid hz
    have f0 : w1.cell? ⟨W.heap.size, 0, none⟩ = some (.int .u64 s) := hz.at_ 0
    have f1 : w1.cell? ⟨W.heap.size, 1, none⟩ = some (.int .i64 u) := hz.at_ 1
    clear hz
    go_wp2_with fail
    (with_reducible refine (HRA.out _).mono ?_)
    rintro e w2 hP
    obtain ⟨he, _, hk2⟩ := hP
    have HE := hid (he HOK.out)
    have HK2 := hid (HK.out.then hk2)
    have HZ2 := hid (HZ.out.keep hk2 (fun f => f))
    have he2 := HE.out
    subst he2
    clear he f0 f1 HZ HK
    go_upto_region 2 with (refine wpList_store_row rfl _ (.tmp 7) (.tmp 21) rfl w2.heap.size z15.toArray rfl rfl _ _ (Blk.made w2 30 z15.toArray) (by kernel_rfl) rfl (one_toArray z15_one) ?_)
    have hb3 := (Blk.made w2 30 z15.toArray).row z15.toArray
    have hk3 : Same w2 ((w2.alloc (.cells z15.toArray 30)).setRow w2.heap.size z15.toArray) := ((Keep.refl _ w2).alloc _).trans (Keep.row _ _ _) (fun i hi e => by have e2 : i = w2.heap.size := e; omega)
    simp only [z15] at hb3 hk3 ⊢
    generalize ((w2.alloc (.cells #[.int .i64 0, .slice none 0 0, .slice none 0 0, .slice none 0 0, .slice none 0 0, .int .i64 0, .int .i64 0, .int .i64 0, .int .i64 0, .int .i64 0, .int .i64 0, .int .i64 0, .int .i64 0, .int .i64 0, .int .i64 0] 30)).setRow w2.heap.size #[.int .i64 0, .slice none 0 0, .slice none 0 0, .slice none 0 0, .slice none 0 0, .int .i64 0, .int .i64 0, .int .i64 0, .int .i64 0, .int .i64 0, .int .i64 0, .int .i64 0, .int .i64 0, .int .i64 0, .int .i64 0]) = w3 at *
    have HB3 := hid (show Blk w3 w2.heap.size 30 z15.toArray from hb3)
    have HK3 := hid (HK2.out.then hk3)
    have hz3 := HZ2.out.keep hk3 (fun f => f)
    have HZ3 := hid hz3
    have f0 : w3.cell? ⟨W.heap.size, 0, none⟩ = some (.int .u64 s) := hz3.at_ 0
    have f1 : w3.cell? ⟨W.heap.size, 1, none⟩ = some (.int .i64 u) := hz3.at_ 1
    clear hb3 hk3 hz3 HE HK2 HZ2
    go_wp2_with fail
    (with_reducible refine (HTO.out _).mono ?_)
    rintro e w4 hP
    obtain ⟨he, _, hk4⟩ := hP
    have HE := hid (he HOK.out)
    have HK4 := hid (HK3.out.then hk4)
    have HB4 := hid (HB3.out.keep hk4 (fun f => f))
    have he2 := HE.out
    subst he2
    clear he f0 f1 HB3 HK3
    go_upto_region 3 with (refine wpList_store_row rfl _ (.tmp 9) (.tmp 31) rfl w4.heap.size z15.toArray rfl rfl _ _ (Blk.made w4 30 z15.toArray) (by kernel_rfl) rfl (one_toArray z15_one) ?_)
    have hb5 := (Blk.made w4 30 z15.toArray).row z15.toArray
    have hk5 : Same w4 ((w4.alloc (.cells z15.toArray 30)).setRow w4.heap.size z15.toArray) := ((Keep.refl _ w4).alloc _).trans (Keep.row _ _ _) (fun i hi e => by have e2 : i = w4.heap.size := e; omega)
    simp only [z15] at hb5 hk5 ⊢
    generalize ((w4.alloc (.cells #[.int .i64 0, .slice none 0 0, .slice none 0 0, .slice none 0 0, .slice none 0 0, .int .i64 0, .int .i64 0, .int .i64 0, .int .i64 0, .int .i64 0, .int .i64 0, .int .i64 0, .int .i64 0, .int .i64 0, .int .i64 0] 30)).setRow w4.heap.size #[.int .i64 0, .slice none 0 0, .slice none 0 0, .slice none 0 0, .slice none 0 0, .int .i64 0, .int .i64 0, .int .i64 0, .int .i64 0, .int .i64 0, .int .i64 0, .int .i64 0, .int .i64 0, .int .i64 0, .int .i64 0]) = w5 at *
    have HB5 := hid (show Blk w5 w4.heap.size 30 z15.toArray from hb5)
    have HB45 := hid (HB4.out.keep hk5 (fun f => f))
    have HK5 := hid (HK4.out.then hk5)
    have HSA := hid (show Calls Tryd.prog 6 #[.agg z15.toArray, .agg z15.toArray] w5 (fun e w' => e = .returned (.bool true) ∧ Same w5 w') from same_conf w5 zcf zcf (zcf_cm w5) (zcf_cm w5) zcf_alike zcf_short)
    clear hb5 hk5 HE HK4 HB4
    go_wp2_with (first
      | (refine wpListW_load_midC rfl _ (.tmp 7) rfl w2.heap.size 0 rfl z15 _ (blk_range HB45.out) Tryd.underlying30 rfl (by kernel_rfl) ?_)
      | (refine wpListW_load_midC rfl _ (.tmp 9) rfl w4.heap.size 0 rfl z15 _ (blk_range HB5.out) Tryd.underlying30 rfl (by kernel_rfl) ?_)
      | ((with_reducible refine HSA.out.mono ?_); rintro e w6 ⟨rfl, hk6⟩; have HK6 := hid (HK5.out.then hk6); clear hk6)
      | (go_at_call 7; (with_reducible refine (awake_any _).mono ?_); rintro e w7 ⟨rfl, hk7⟩; have HK7 := hid (HK6.out.then hk7); clear hk7))
    go_ret
    exact ⟨rfl, HK7.out⟩
end Go.Proofs.YtnejacmmbfeneaaDoor

import Derived.Test.YtmkcphhgimlkgaaDiK
import Derived.Test.YtmkcphhgimlkgaaDiL
import Derived.Deep.CutRange
import Derived.Deep.RegionHeld3
namespace Go.Proofs.Ytmkcphhgimlkgaa
open Go.RowKit

theorem takeLw {P : Program} {md : Region.Mode} {ops : Array Oper} {Q : Exit → Act → World → Prop} {S : World → Prop} {i : Nat} {oi : Oper} {fuel : Nat} {listed : Array Bool} {a : Act} {w : World}
    (hs : Region.noSelect ops = true) (hf : Region.free md ops listed i = true) (hr : (Region.ready md ops listed).contains i = true) (hQ : ∀ c a d v w, Q (.panic c) (Act.put a d v) w → Q (.panic c) a w) (hi : ops[i]? = some oi)
    (hwn : Region.wanted oi (yielded ops a.tmps) = true) (ty : TypeId) (x : Operand) (ho : oi.op = .load ty x) (g : Nat) (hx : a.eval x = .pointer (some ⟨g, 0, none⟩)) (t : TypeId) (cs : Array Value) (fr : Nat × Nat) (d : TypeDesc) (hh : ∀ W, S W → W.heap[g]? = some (.cells cs t fr))
    (hu : P.underlying ty = some d) (hd : (match d with | .struct _ | .array _ _ => true | _ => false) = true) (hz : (P.info? ty).map (·.size) = some cs.size) (hS : S w)
    (h : wpAnyH P md ops Q S fuel (listed.setIfInBounds i true) (a.put oi.dst (.agg cs)) w) : wpAnyH P md ops Q S (fuel + 1) listed a w :=
  wpAnyH_take hi hs hf hr (fun c a w h => hQ c a _ _ w h) (.inl ⟨hwn, fun W hW => by
    unfold execOp
    simp only [ho, hx, Instr.loadAt, Instr.sureAddr, Sem.run_bind, Sem.run_pure, Result.andThen_ok, run_loadVar_row W g t ty cs fr d (hh W hW) hu hd hz]⟩) hS h
set_option maxRecDepth 100000 in
set_option maxHeartbeats 16000000 in
theorem active_walk (w : World) (c : CF) (hm : CM w c) (hf : Few c) (Z : Option Addr) (cz : Nat) (acts : List AK) (hz : Sl w (fun _ => False) 5 Z acts.length (akcells acts)) (hzn : acts.length ≤ maxLen) (ce now : Int) :
    Calls Try.prog 4 #[.agg (map16 c Z acts.length cz).toArray, .int .i64 ce, .int .i64 now] w fun e w' => e = .returned (.bool true) ∧ Same w w' := by
  have hb0 := Blk.made w 30 (map16 c Z acts.length cz).toArray
  have hw0 : Same w (w.alloc (.cells (map16 c Z acts.length cz).toArray 30)) := (Keep.refl _ _).alloc _
  generalize hw1 : w.alloc (.cells (map16 c Z acts.length cz).toArray 30) = w1 at *
  have HB := hid hb0
  have HW := hid hw0
  have HPL := hid (played_any w1 c (hm.same hw0) hf Z cz acts (hz.same hw0) hzn)
  unfold PlayPost at HPL
  have HAW := hid awake_any
  clear hb0 hw0 hm hf hz hzn
  go_enter Try.func4, Try.ntmps4
  go_upto_region 1 with fail
  try rw [hw1]
  go_wp2_with (refine wpList_load_row rfl _ (.tmp 3) rfl w.heap.size rfl _ (map16 c Z acts.length cz).toArray (0, 0) _ HB.out Try.underlying30 rfl (by kernel_rfl) ?_)
  (with_reducible refine HPL.out.mono ?_)
  rintro e w2 (⟨rfl, hk2⟩ | ⟨hv, ha60, hd60, mb, tb, sb, A, cp, X, cx, rfl, hP, hk2⟩)
  · have HK2 := hid (HW.out.then hk2)
    clear hk2
    go_upto_region 2 with (refine wpList_store_row rfl _ (.tmp 8) (.tmp 14) rfl w2.heap.size zero16.toArray rfl rfl _ _ (Blk.made w2 36 zero16.toArray) (by kernel_rfl) rfl (one_toArray zero16_one) ?_)
    have hK : Same w2 ((w2.alloc (.cells zero16.toArray 36)).setRow w2.heap.size zero16.toArray) := ((Keep.refl _ w2).alloc _).trans (Keep.row _ _ _) (fun i hi e => by have e2 : i = w2.heap.size := e; omega)
    simp only [zero16] at hK ⊢
    generalize ((w2.alloc (.cells #[.int .i64 0, .slice none 0 0, .slice none 0 0, .slice none 0 0, .slice none 0 0, .int .i64 0, .int .i64 0, .int .i64 0, .int .i64 0, .int .i64 0, .int .i64 0, .int .i64 0, .int .i64 0, .int .i64 0, .int .i64 0, .slice none 0 0] 36)).setRow w2.heap.size #[.int .i64 0, .slice none 0 0, .slice none 0 0, .slice none 0 0, .slice none 0 0, .int .i64 0, .int .i64 0, .int .i64 0, .int .i64 0, .int .i64 0, .int .i64 0, .int .i64 0, .int .i64 0, .int .i64 0, .int .i64 0, .slice none 0 0]) = w3 at *
    have HK3 := hid (HK2.out.then hK)
    clear hK
    go_wp2_with fail
    (with_reducible refine (HAW.out _).mono ?_)
    rintro e w4 ⟨rfl, hk4⟩
    have HK4 := hid (HK3.out.then hk4)
    clear hk4
    go_wp2_with fail
    go_ret
    exact ⟨rfl, HK4.out⟩
  · have HK2 := hid (HW.out.then hk2)
    have HL := hid (show w.heap.size ≤ mb ∧ w.heap.size ≤ tb ∧ w.heap.size ≤ sb from ⟨Nat.le_trans HW.out.size hP.mb, Nat.le_trans HW.out.size hP.tb, Nat.le_trans HW.out.size hP.sb⟩)
    have hd2 := hP.dm
    have ht2 := hP.th
    have HINI := hid hv
    clear hk2 hP
    generalize runD c acts (initL c.cen.toNat c.h3) = L at *
    go_upto_region 2 with (refine wpList_store_row rfl _ (.tmp 8) (.tmp 14) rfl w2.heap.size (map16 c X L.length cx).toArray rfl rfl _ _ (Blk.made w2 36 zero16.toArray) (by kernel_rfl) rfl (one_toArray (map16_one _ _ _ _)) ?_)
    have hB3 := (Blk.made w2 36 zero16.toArray).row (map16 c X L.length cx).toArray
    have hK : Same w2 ((w2.alloc (.cells zero16.toArray 36)).setRow w2.heap.size (map16 c X L.length cx).toArray) := ((Keep.refl _ w2).alloc _).trans (Keep.row _ _ _) (fun i hi e => by have e2 : i = w2.heap.size := e; omega)
    simp only [zero16] at hB3 hK ⊢
    generalize ((w2.alloc (.cells #[.int .i64 0, .slice none 0 0, .slice none 0 0, .slice none 0 0, .slice none 0 0, .int .i64 0, .int .i64 0, .int .i64 0, .int .i64 0, .int .i64 0, .int .i64 0, .int .i64 0, .int .i64 0, .int .i64 0, .int .i64 0, .slice none 0 0] 36)).setRow w2.heap.size (map16 c X L.length cx).toArray) = w3 at *
    have HB3 := hid hB3
    have HK3 := hid (HK2.out.then hK)
    have HD3 := hid (hd2.same hK)
    have HT3 := hid (ht2.same hK)
    have hs9 := hd2.ok.small
    clear hB3 hK hd2 ht2
    have HAC := hid (fun W (hk : Same w3 W) => active_any W mb tb sb A cp c L (HD3.out.same hk) ce now)
    have HRA := hid (fun W (hk : Same w3 W) => acts_any W _ c X cx L (HT3.out.same hk) hs9 ce now)
    have HX := hid (fun W (hk : Same w3 W) => HB3.out.keep hk (fun f => f))
    have HPK := hid (show (pick (actB ce now) L L.length).length ≤ 1000000 from by have := pick_le (p := actB ce now) (l := L) L.length; omega)
    unfold LsPost at HAC HRA
    generalize pick (actB ce now) L L.length = PK at *
    go_wp2_with fail
    refine wp_region_held_drew (S := fun W => Blk W w2.heap.size 36 (map16 c X L.length cx).toArray) (by kernel_rfl) (HX.out _ (Keep.refl _ _).drew) (fun hHeld => ?_)
    refine takeO (i := 0) (v := ?_) (by kernel_rfl) (by kernel_rfl) (by kernel_rfl) (fun c a d v w h => by cases d <;> exact h) (oi := ?_) ?_ ?_ (by assumption) ?_
    rotate_left 2
    · (simp only [List.getElem?_toArray, List.getElem?_cons_zero]; rfl)
    · (refine Or.inl ⟨by rfl, ?_⟩; intro w hSw; (try dsimp only at hSw); go_simp; try with_reducible rfl)
    try simp only [Act.put, List.setIfInBounds_toArray, List.set_cons_zero, List.set_cons_succ]
    refine takeO (i := 1) (v := ?_) (by kernel_rfl) (by kernel_rfl) (by kernel_rfl) (fun c a d v w h => by cases d <;> exact h) (oi := ?_) ?_ ?_ (by assumption) ?_
    rotate_left 2
    · (simp only [List.getElem?_toArray, List.getElem?_cons_succ, List.getElem?_cons_zero]; rfl)
    · (refine Or.inl ⟨by rfl, ?_⟩; intro w hSw; (try dsimp only at hSw); go_simp; try with_reducible rfl)
    try simp only [Act.put, List.setIfInBounds_toArray, List.set_cons_zero, List.set_cons_succ]
    refine takeO (i := 2) (v := ?_) (by kernel_rfl) (by kernel_rfl) (by kernel_rfl) (fun c a d v w h => by cases d <;> exact h) (oi := ?_) ?_ ?_ (by assumption) ?_
    rotate_left 2
    · (simp only [List.getElem?_toArray, List.getElem?_cons_succ, List.getElem?_cons_zero]; rfl)
    · (refine Or.inl ⟨by rfl, ?_⟩; intro w hSw; (try dsimp only at hSw); go_simp; try with_reducible rfl)
    try simp only [Act.put, List.setIfInBounds_toArray, List.set_cons_zero, List.set_cons_succ]
    refine takeO (i := 3) (v := ?_) (by kernel_rfl) (by kernel_rfl) (by kernel_rfl) (fun c a d v w h => by cases d <;> exact h) (oi := ?_) ?_ ?_ (by assumption) ?_
    rotate_left 2
    · (simp only [List.getElem?_toArray, List.getElem?_cons_succ, List.getElem?_cons_zero]; rfl)
    · (refine Or.inl ⟨by rfl, ?_⟩; intro w hSw; (try dsimp only at hSw); go_simp; try with_reducible rfl)
    try simp only [Act.put, List.setIfInBounds_toArray, List.set_cons_zero, List.set_cons_succ]
    refine takeO (i := 4) (v := ?_) (by kernel_rfl) (by kernel_rfl) (by kernel_rfl) (fun c a d v w h => by cases d <;> exact h) (oi := ?_) ?_ ?_ (by assumption) ?_
    rotate_left 2
    · (simp only [List.getElem?_toArray, List.getElem?_cons_succ, List.getElem?_cons_zero]; rfl)
    · (refine Or.inl ⟨by rfl, ?_⟩; intro w hSw; (try dsimp only at hSw); go_simp; try with_reducible rfl)
    try simp only [Act.put, List.setIfInBounds_toArray, List.set_cons_zero, List.set_cons_succ]
    refine takeLw (i := 6) (by kernel_rfl) (by kernel_rfl) (by kernel_rfl) (fun c a d v w h => by cases d <;> exact h) (oi := ?_) ?_ ?_ _ (.tmp 8) ?_ (w2.heap.size) ?_ 36 ((map16 c X L.length cx).toArray) (0, 0) _ (fun W hW => hW) Try.underlying36 rfl (by kernel_rfl) (by assumption) ?_
    rotate_left 1
    · (simp only [List.getElem?_toArray, List.getElem?_cons_succ, List.getElem?_cons_zero]; rfl)
    · rfl
    · rfl
    · rfl
    try simp only [Act.put, List.setIfInBounds_toArray, List.set_cons_zero, List.set_cons_succ]
    refine takeO (i := 7) (v := ?_) (by kernel_rfl) (by kernel_rfl) (by kernel_rfl) (fun c a d v w h => by cases d <;> exact h) (oi := ?_) ?_ ?_ (by assumption) ?_
    rotate_left 2
    · (simp only [List.getElem?_toArray, List.getElem?_cons_succ, List.getElem?_cons_zero]; rfl)
    · (refine Or.inl ⟨by rfl, ?_⟩; intro w hSw; (try dsimp only at hSw); go_simp; try with_reducible rfl)
    try simp only [Act.put, List.setIfInBounds_toArray, List.set_cons_zero, List.set_cons_succ]
    refine takeO (i := 8) (v := ?_) (by kernel_rfl) (by kernel_rfl) (by kernel_rfl) (fun c a d v w h => by cases d <;> exact h) (oi := ?_) ?_ ?_ (by assumption) ?_
    rotate_left 2
    · (simp only [List.getElem?_toArray, List.getElem?_cons_succ, List.getElem?_cons_zero]; rfl)
    · (refine Or.inl ⟨by rfl, ?_⟩; intro w hSw; (try dsimp only at hSw); go_simp; try with_reducible rfl)
    try simp only [Act.put, List.setIfInBounds_toArray, List.set_cons_zero, List.set_cons_succ]
    refine wpAnyH_ready (rs := [5]) (by kernel_rfl) (by simp) ?_
    refine AllReadyH.cons rfl (fun K hK => ?_) AllReadyH.nil
    go_simp
    refine (HAC.out _ ((Keep.refl _ _).drew)).mono ?_
    rintro e w5 ⟨B5, d5, rfl, hs5, hk5⟩
    have hk5b : Same w3 w5 := (Keep.refl _ _).drew.then hk5
    have HK5 := hid hk5b
    have HS5 := hid (hs5.wide (Av' := fun _ => False) (fun _ _ f => f.elim))
    clear hk5 hk5b hs5
    refine hK.out _ _ (HX.out _ HK5.out) (fun hHeld1 => ?_)
    clear hK K
    try simp only [Act.put, List.setIfInBounds_toArray, List.set_cons_zero, List.set_cons_succ]
    refine wpAnyH_ready (rs := [9]) (by kernel_rfl) (by simp) ?_
    refine AllReadyH.cons rfl (fun K hK => ?_) AllReadyH.nil
    go_simp
    refine (HRA.out _ HK5.out).mono ?_
    rintro e w6 ⟨B6, d6, rfl, hs6, hk6⟩
    have hk6b : Same w3 w6 := HK5.out.then hk6
    have HK6 := hid hk6b
    have HS6 := hid (hs6.wide (Av' := fun _ => False) (fun _ _ f => f.elim))
    have HS56 := hid (HS5.out.same hk6)
    clear hk6 hk6b hs6
    refine hK.out _ _ (HX.out _ HK6.out) (fun hHeld2 => ?_)
    clear hK K
    try simp only [Act.put, List.setIfInBounds_toArray, List.set_cons_zero, List.set_cons_succ]
    refine wpAnyH_ready (rs := [10]) (by kernel_rfl) (by simp) ?_
    refine AllReadyH.cons rfl (fun K hK => ?_) AllReadyH.nil
    go_simp
    refine ((numbers_eq _ B5 B6 d5 d6 PK HS56.out HS6.out HPK.out)).mono ?_
    rintro e w7 ⟨rfl, hk7⟩
    have HK7 := hid (HK6.out.then hk7)
    clear hk7
    refine hK.out _ _ (HX.out _ HK7.out) (fun hHeld3 => ?_)
    clear hK K
    try simp only [Act.put, List.setIfInBounds_toArray, List.set_cons_zero, List.set_cons_succ]
    refine takeO (i := 11) (v := ?_) (by kernel_rfl) (by kernel_rfl) (by kernel_rfl) (fun c a d v w h => by cases d <;> exact h) (oi := ?_) ?_ ?_ (by assumption) ?_
    rotate_left 2
    · (simp only [List.getElem?_toArray, List.getElem?_cons_succ, List.getElem?_cons_zero]; rfl)
    · (refine Or.inl ⟨by rfl, ?_⟩; intro w hSw; (try dsimp only at hSw); go_simp; try with_reducible rfl)
    try simp only [Act.put, List.setIfInBounds_toArray, List.set_cons_zero, List.set_cons_succ]
    refine takeO (i := 12) (v := ?_) (by kernel_rfl) (by kernel_rfl) (by kernel_rfl) (fun c a d v w h => by cases d <;> exact h) (oi := ?_) ?_ ?_ (by assumption) ?_
    rotate_left 2
    · (simp only [List.getElem?_toArray, List.getElem?_cons_succ, List.getElem?_cons_zero]; rfl)
    · (refine Or.inl ⟨by rfl, ?_⟩; intro w hSw; (try dsimp only at hSw); go_simp; try with_reducible rfl)
    try simp only [Act.put, List.setIfInBounds_toArray, List.set_cons_zero, List.set_cons_succ]
    refine wpAnyH_ready (rs := [13]) (by kernel_rfl) (by simp) ?_
    refine AllReadyH.cons rfl (fun K hK => ?_) AllReadyH.nil
    go_simp
    refine (HAW.out _).mono ?_
    rintro e w8 ⟨rfl, hk8⟩
    have HK8 := hid (HK7.out.then hk8)
    clear hk8
    refine hK.out _ _ (HX.out _ HK8.out) (fun hHeld4 => ?_)
    clear hK K
    try simp only [Act.put, List.setIfInBounds_toArray, List.set_cons_zero, List.set_cons_succ]
    refine takeO (i := 14) (v := ?_) (by kernel_rfl) (by kernel_rfl) (by kernel_rfl) (fun c a d v w h => by cases d <;> exact h) (oi := ?_) ?_ ?_ (by assumption) ?_
    rotate_left 2
    · (simp only [List.getElem?_toArray, List.getElem?_cons_succ, List.getElem?_cons_zero]; rfl)
    · (refine Or.inl ⟨by rfl, ?_⟩; intro w hSw; (try dsimp only at hSw); go_simp; try with_reducible rfl)
    try simp only [Act.put, List.setIfInBounds_toArray, List.set_cons_zero, List.set_cons_succ]
    refine takeO (i := 15) (v := ?_) (by kernel_rfl) (by kernel_rfl) (by kernel_rfl) (fun c a d v w h => by cases d <;> exact h) (oi := ?_) ?_ ?_ (by assumption) ?_
    rotate_left 2
    · (simp only [List.getElem?_toArray, List.getElem?_cons_succ, List.getElem?_cons_zero]; rfl)
    · (refine Or.inl ⟨by rfl, ?_⟩; intro w hSw; (try dsimp only at hSw); go_simp; try with_reducible rfl)
    try simp only [Act.put, List.setIfInBounds_toArray, List.set_cons_zero, List.set_cons_succ]
    refine wpAnyH_done (by kernel_rfl) ?_ _
    go_wp2_with fail
    go_ret
    exact ⟨rfl, HK3.out.then HK8.out⟩
end Go.Proofs.Ytmkcphhgimlkgaa

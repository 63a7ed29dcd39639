import Derived.RangeFuncNested
import Derived.RangeFuncBox
import Derived.RangeFuncBound
import Derived.RangeFuncCalls
import Derived.RangeFuncLeaves
import Derived.Shelf.Abstract
import Derived.Shelf.RegionOpen
import Derived.WalkKit
import Derived.OwnWalkIn
import Derived.TacticsInMore
import Derived.LoopNIn
import Derived.LoopIn
import Derived.Maps.AppendAt
import Derived.Test.YtnejacmmbfeneaaDoorNsF
namespace Go.Proofs.YtnejacmmbfeneaaDoor
open Go.RowKit Go.Shelf

attribute [local go_sem] Oper.semAt_some

/-! ## The nodes of a set, one behind the other -/
def elK (k c : Nat) : Int := (k : Int) * 64 + (c : Int)
def upI (ws : List Nat) (k : Nat) : List Int := (upTo ws k).map Int.ofNat
theorem upI_succ (ws : List Nat) (k : Nat) : upI ws (k + 1) = upI ws k ++ (bitsL (ws.getD k 0)).map (elK k) := by
  rw [upI, upTo, List.map_append, List.map_map]
  congr 1
  refine List.map_congr_left fun c _ => ?_
  show ((64 * k + c : Nat) : Int) = elK k c
  rw [elK]; omega
theorem upI_all (ws : List Nat) : upI ws 64 = elemsI ws := by rw [upI, elemsI, elems_upTo]
theorem upI_le (ws : List Nat) {k : Nat} (h : k ≤ 64) : ∃ r, upI ws 64 = upI ws k ++ r := by
  have : ∀ d, k + d ≤ 64 → ∃ r, upI ws (k + d) = upI ws k ++ r := by
    intro d
    induction d with
    | zero => intro _; exact ⟨[], by simp⟩
    | succ d ih =>
      intro hd
      obtain ⟨r, hr⟩ := ih (by omega)
      refine ⟨r ++ (bitsL (ws.getD (k + d) 0)).map (elK (k + d)), ?_⟩
      rw [← Nat.add_assoc, upI_succ, hr, List.append_assoc]
  have := this (64 - k) (by omega)
  rwa [show k + (64 - k) = 64 by omega] at this
theorem upI_pre (ws : List Nat) {k : Nat} (h : k < 64) {p : List Int} {r : List Nat} (e : (bitsL (ws.getD k 0)).map (elK k) = p ++ r.map (elK k)) : ∃ s, upI ws 64 = upI ws k ++ p ++ r.map (elK k) ++ s := by
  obtain ⟨s, hs⟩ := upI_le ws (show k + 1 ≤ 64 by omega)
  exact ⟨s, by rw [hs, upI_succ, e]; simp⟩
theorem and_sub_int (y : Nat) (h0 : y ≠ 0) (h : y < 18446744073709551616) : bits .and .u64 (y : Int) ((y : Int) - 1) = ((y &&& (y - 1) : Nat) : Int) := by
  rw [show ((y : Int) - 1) = ((y - 1 : Nat) : Int) by omega]
  exact bits_and_u64_nat y (y - 1) h (by omega)
theorem bits_cons (y k : Nat) (h0 : y ≠ 0) (h : y < 18446744073709551616) : (bitsL y).map (elK k) = elK k (Lib.ctz 64 y) :: (bitsL (y &&& (y - 1))).map (elK k) := by
  rw [(bits_step h0 h).2]; rfl
theorem Tab.below {n₀ : Nat} {A B : World} (h : Tab A) (hk : Below n₀ A B) (h0 : 0 < n₀) : Tab B := fun i hi => (hk.cell (p := ⟨0, i, none⟩) h0).trans (h i hi)
theorem IsB.below {n₀ : Nat} {A B : World} {g : Nat} {ws : List Nat} (h : IsB A g ws) (hk : Below n₀ A B) (h0 : g < n₀) : IsB B g ws := (hk.block g h0).trans h

set_option maxRecDepth 100000 in
set_option maxHeartbeats 4000000 in
theorem each_in (n : Nat) (v : Value) (w : World) :
    CallsIn Fence.wide n Tryd.prog 29 #[.agg #[v]] w fun e w' => e = .returned (.func (.func 39) #[] #[.pointer (some ⟨w.heap.size, 0, none⟩)]) ∧ w' = w.alloc (.cells #[v] 42) := by
  refine callsIn_of_wp Tryd.func29 rfl trivial ?_ rfl
  simp only [Tryd.ntmps29, List.size_toArray, List.length_cons, List.length_nil, Nat.reduceAdd, Nat.reduceSub, Array.replicate_succ, Array.replicate_zero, List.push_toArray, List.append_toArray, List.nil_append, List.cons_append]
  gi_wp2
  go_ret
  exact ⟨rfl, rfl⟩

set_option maxRecDepth 100000 in
set_option maxHeartbeats 4000000 in
theorem each1_in (n : Nat) (hn : 1 ≤ n) (l Bn n₀ : Nat) (h0 : 0 < n₀) (v : Value) (ws : List Nat) (J Jx : List Int → World → Prop)
    (hY : ∀ pre x W, J pre W → pre.length < (elemsI ws).length → x ∈ elemsI ws → YieldAt Fence.wide (n - 1) Tryd.prog l #[.int .i64 x] W fun e W' =>
      (e = .returned (.bool true) ∧ J (pre ++ [x]) W' ∧ Below n₀ W W') ∨ (e = .returned (.bool false) ∧ Jx (pre ++ [x]) W'))
    (hJd : ∀ pre W, J pre W → J pre W.drew) (W : World) (hBn : W.cell? ⟨Bn, 0, none⟩ = some v) (hs : IsSet W v ws) (hlo : ∀ g, v = .pointer (some ⟨g, 0, none⟩) → g < n₀) (hT : Tab W) (hJ : J [] W) :
    CallsIn Fence.wide n Tryd.prog 39 #[.func (.yield l) #[] #[], .pointer (some ⟨Bn, 0, none⟩)] W fun e W' => (∃ v, e = .returned v) ∧
      ((∃ ys, ys = elemsI ws ∧ J ys W') ∨ (∃ pre, pre <+: elemsI ws ∧ Jx pre W')) := by
  refine callsIn_of_wp Tryd.func39 rfl trivial ?_ rfl
  simp only [Tryd.ntmps39, List.size_toArray, List.length_cons, List.length_nil, Nat.reduceAdd, Nat.reduceSub, Array.replicate_succ, Array.replicate_zero, List.push_toArray, List.append_toArray, List.nil_append, List.cons_append]
  rcases hs.mem with ⟨rfl, rfl⟩ | ⟨g, rfl, hg, _⟩
  · gi_wp2
    refine bodyPost_ret (results_none rfl _ _ _) rfl ?_
    refine ⟨⟨_, rfl⟩, .inl ⟨[], ?_, hJ⟩⟩
    rw [elemsI, elems_zero]; rfl
  · have hgl := hlo g rfl
    have HOK := hid hs.ok
    clear hs hlo
    gi_wp2
    clear hBn
    gi_loopw [10] (fun i wr => ∃ k : Nat, k ≤ 64 ∧ i = .int .i64 k ∧ J (upI ws k) wr ∧ IsB wr g ws ∧ Tab wr) (fun i _ => 64 - (RowKit.intOf i).toNat)
    case atStart => exact ⟨0, by omega, rfl, hJ, hg, hT⟩
    case round =>
      obtain ⟨k, hk, rfl, hJk, hgk, hTk⟩ := hrel
      by_cases hlt : k < 64
      · have hk1 : (k : Int) < 64 := by omega
        obtain ⟨x, hx⟩ : ∃ x, ws[k]? = some x := ⟨_, List.getElem?_eq_getElem (by rw [HOK.out.len]; exact hlt)⟩
        have x1 := hgk.word hx
        have hx64 := HOK.out.each x (List.mem_of_getElem? hx)
        have hxd : ws.getD k 0 = x := by rw [List.getD_eq_getElem?_getD, hx]; rfl
        obtain ⟨y0, hy0⟩ : ∃ y, ws[0]? = some y := ⟨_, List.getElem?_eq_getElem (by rw [HOK.out.len]; decide)⟩
        have c0 : (wr.cell? ⟨g, 0, none⟩).isSome = true := by rw [hgk.word hy0]; rfl
        clear hx hy0
        gi_wp2
        gi_region
        all_goals gi_wp2
        clear c0 x1
        gi_loopw [4] (fun v wr => ∃ (y : Nat) (p : List Int), y < 18446744073709551616 ∧ v = .int .u64 y ∧ (bitsL x).map (elK k) = p ++ (bitsL y).map (elK k) ∧ J (upI ws k ++ p) wr ∧ IsB wr g ws ∧ Tab wr) (fun v _ => (bitsL (RowKit.intOf v).toNat).length)
        case atStart => exact ⟨x, [], hx64, rfl, rfl, by rw [List.append_nil]; exact hJd _ _ hJk, Blk.drew hgk, hTk⟩
        case round =>
          clear hJk hgk hTk
          obtain ⟨y, p, hy64, rfl, hp, hJp, hgp, hTp⟩ := hrel
          by_cases hy0 : y = 0
          · subst hy0
            have hne : (((0 : Nat) : Int) != 0) = false := rfl
            gi_wp2
            go_roundw
            case rel =>
              have hJn : J (upI ws (k + 1)) wr := by
                rw [bits_zero, List.map_nil, List.append_nil] at hp
                rw [upI_succ, hxd, hp]; exact hJp
              first | exact ⟨k + 1, by omega, by go_num, hJn, hgp, hTp⟩ | ((repeat apply Exists.intro); refine And.intro ?_ rfl; exact ⟨k + 1, by omega, by go_num, hJn, hgp, hTp⟩)
            case measure => simp [RowKit.intOf]; omega
          · have hne : ((y : Int) != 0) = true := by simp; exact hy0
            have hc := bits_cons y k hy0 hy64
            have hc64 := (bits_step hy0 hy64).1
            have HTZ := hid (tz_any wr hTp y hy0 hy64)
            have HAN := hid (and_sub_int y hy0 hy64)
            have hlen : (upI ws k ++ p).length < (elemsI ws).length := by
              obtain ⟨s, hs⟩ := upI_pre ws hlt (by rw [hxd]; exact hp)
              rw [← upI_all, hs, hc]
              simp only [List.length_append, List.length_cons]; omega
            have hmeas : (bitsL (y &&& (y - 1))).length < (bitsL y).length := by
              have := congrArg List.length hc
              simp only [List.length_map, List.length_cons] at this; omega
            have hp2 : (bitsL x).map (elK k) = (p ++ [elK k (Lib.ctz 64 y)]) ++ (bitsL (y &&& (y - 1))).map (elK k) := by rw [hp, hc]; simp
            have hsn : (y : Int) ≤ 18446744073709551615 := by omega
            have hs1 : 1 ≤ (y : Int) := by omega
            have hb64 := and_lt (v := y - 1) hy64
            have hmem : elK k (Lib.ctz 64 y) ∈ elemsI ws := by
              obtain ⟨s, hs⟩ := upI_pre ws hlt (by rw [hxd]; exact hp)
              rw [← upI_all, hs, hc]
              simp
            obtain ⟨fn, tmps, assign, body, hy, hR⟩ := hY (upI ws k ++ p) (elK k (Lib.ctz 64 y)) wr hJp hlen hmem
            clear hmem
            rw [show elK k (Lib.ctz 64 y) = (k : Int) * 64 + (Lib.ctz 64 y : Int) from rfl] at hy
            have HPRE := hid hp2
            have HMS := hid hmeas
            have HD := hid hxd
            have HGT := hid (show IsB wr g ws ∧ Tab wr from ⟨hgp, hTp⟩)
            have HB64 := hid hb64
            clear hc hp hp2 hmeas hlen hxd hJp hgp hTp hb64 hx64
            gi_wp2_with (refine ⟨trivial, ?_⟩; gi_at_call 40; refine (callsIn_wide.2 HTZ.out).mono ?_; rintro e w' ⟨rfl, rfl⟩)
            clear hs1 hsn
            refine hR.mono ?_
            rintro e W3 (⟨rfl, hJ3, hk3⟩ | ⟨rfl, hJx3⟩)
            · have HG3 := hid (show IsB W3 g ws ∧ Tab W3 from ⟨HGT.out.1.below hk3 hgl, HGT.out.2.below hk3 h0⟩)
              have HJ3 := hid hJ3
              have hs1 : 1 ≤ (y : Int) := by omega
              have hsn : (y : Int) ≤ 18446744073709551615 := by omega
              clear hk3 hJ3 hR hy
              gi_wp2
              go_roundw
              case rel =>
                rw [HAN.out]
                first
                | exact ⟨_, _, HB64.out, rfl, HPRE.out, by rw [← List.append_assoc]; exact HJ3.out, HG3.out⟩
                | ((repeat apply Exists.intro); refine And.intro ?_ rfl; exact ⟨_, _, HB64.out, rfl, HPRE.out, by rw [← List.append_assoc]; exact HJ3.out, HG3.out⟩)
              case measure =>
                rw [HAN.out]
                have := HMS.out
                simpa [RowKit.intOf] using this
            · have HJX := hid hJx3
              have HPX := hid (show ∃ s, elemsI ws = (upI ws k ++ p ++ [elK k (Lib.ctz 64 y)]) ++ s from by
                obtain ⟨s, hs⟩ := upI_pre ws hlt (by rw [HD.out]; exact HPRE.out)
                exact ⟨_, by rw [← upI_all, hs]; simp only [List.append_assoc]; rfl⟩)
              clear hJx3 hR hy
              gi_wp2
              refine bodyPost_ret (results_none rfl _ _ _) rfl ?_
              obtain ⟨s, hs⟩ := HPX.out
              exact ⟨⟨_, rfl⟩, .inr ⟨_, ⟨s, hs.symm⟩, HJX.out⟩⟩
      · obtain rfl : k = 64 := by omega
        gi_wp2
        go_end0
        exact ⟨⟨_, rfl⟩, .inl ⟨_, upI_all ws, hJk⟩⟩
end Go.Proofs.YtnejacmmbfeneaaDoor

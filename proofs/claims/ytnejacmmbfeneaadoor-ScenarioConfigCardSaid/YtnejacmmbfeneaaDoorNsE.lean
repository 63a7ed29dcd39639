import Derived.Test.YtnejacmmbfeneaaDoorNsB
import Derived.Test.YtnejacmmbfeneaaDoorNsDa
import Derived.Test.YtnejacmmbfeneaaDoorNsDb
import Derived.Laws.BitsLemmas
namespace Go.Proofs.YtnejacmmbfeneaaDoor
open Go.RowKit

theorem pop1_int (p : Nat) (h : p < 18446744073709551616) (h1 : pop1 p < 18446744073709551616) : IntKind.u64.wrap (bits .and .u64 ((p : Int) / 2) 6148914691236517205 + bits .and .u64 (p : Int) 6148914691236517205) = ((pop1 p : Nat) : Int) := by
  rw [show ((p : Int) / 2) = ((p / 2 : Nat) : Int) by omega, show (6148914691236517205 : Int) = ((6148914691236517205 : Nat) : Int) from rfl, bits_and_u64_nat _ _ (by omega) (by decide), bits_and_u64_nat _ _ h (by decide), ← Int.natCast_add]
  exact IntWalk.u64_in _ (by rw [pop1] at h1; omega)
theorem pop2_int (p : Nat) (h : p < 18446744073709551616) (h1 : pop2 p < 18446744073709551616) : IntKind.u64.wrap (bits .and .u64 ((p : Int) / 4) 3689348814741910323 + bits .and .u64 (p : Int) 3689348814741910323) = ((pop2 p : Nat) : Int) := by
  rw [show ((p : Int) / 4) = ((p / 4 : Nat) : Int) by omega, show (3689348814741910323 : Int) = ((3689348814741910323 : Nat) : Int) from rfl, bits_and_u64_nat _ _ (by omega) (by decide), bits_and_u64_nat _ _ h (by decide), ← Int.natCast_add]
  exact IntWalk.u64_in _ (by rw [pop2] at h1; omega)
theorem pop3_int (p : Nat) (h1 : p / 16 + p < 18446744073709551616) : bits .and .u64 (IntKind.u64.wrap ((p : Int) / 16 + (p : Int))) 1085102592571150095 = ((pop3 p : Nat) : Int) := by
  rw [show ((p : Int) / 16 + (p : Int)) = ((p / 16 + p : Nat) : Int) by omega, IntWalk.u64_in _ (by omega), show (1085102592571150095 : Int) = ((1085102592571150095 : Nat) : Int) from rfl, bits_and_u64_nat _ _ h1 (by decide)]
  rfl
theorem qs_ (d p p' : Nat) (e : p' = p + p / d) (g : p' < 2305843009213693952) : IntKind.u64.wrap ((p : Int) + (p : Int) / (d : Int)) = (p' : Int) := by
  rw [show ((p : Int) + (p : Int) / (d : Int)) = ((p + p / d : Nat) : Int) from by rw [Int.natCast_add, Int.natCast_ediv], ← e]
  exact IntWalk.u64_in _ (by omega)
theorem q7_ (p : Nat) (g : p < 2305843009213693952) : wrap64 (p : Int) = (p : Int) := by unfold wrap64; omega
theorem q8_ (p L : Nat) (g : p < 2305843009213693952) (h : p % 128 = L) : bits .and .i64 (p : Int) 127 = (L : Int) := by
  have := bits_mask .i64 63 (by decide) (fun n h0 h1 => IntWalk.i64_in n (by omega)) 7 (by decide) (p : Int) (by omega) (by omega)
  rw [show ((2 : Int) ^ 7 - 1) = 127 from rfl] at this
  rw [this]; omega
set_option maxRecDepth 100000 in
set_option maxHeartbeats 4000000 in
theorem ones_any (w : World) (x : Nat) (hx : x < 18446744073709551616) : Calls Tryd.prog 33 #[.int .u64 x] w fun e w' => e = .returned (.int .i64 ((bitsL x).length : Nat)) ∧ w' = w := by
  obtain ⟨h1, h2, h3, c0, c1, c2, c3, c4, c5, c6, c7, hs, b0, b1, b2, b3, b4, b5, b6, b7, he⟩ := pop_123 x hx
  obtain ⟨p4, p5, p6, e4, e5, e6, g3, g4, g5, g6, f6⟩ := pop_456 c0 c1 c2 c3 c4 c5 c6 c7 _ b0 b1 b2 b3 b4 b5 b6 b7 he
  rw [hs] at f6
  have H1 := hid (pop1_int x hx h1)
  have H2 := hid (pop2_int _ h1 h2)
  have H3 := hid (pop3_int _ h3)
  generalize pop1 x = p1 at *
  generalize pop2 p1 = p2 at *
  generalize pop3 p2 = p3 at *
  clear he hs b0 b1 b2 b3 b4 b5 b6 b7 h1 h2 h3
  have HQ := hid (show _ ∧ _ ∧ _ ∧ _ ∧ _ from ⟨(show IntKind.u64.wrap ((p3 : Int) + (p3 : Int) / 256) = (p4 : Int) from qs_ 256 p3 p4 e4 (Nat.lt_trans g4 (by decide))), (show IntKind.u64.wrap ((p4 : Int) + (p4 : Int) / 65536) = (p5 : Int) from qs_ 65536 p4 p5 e5 (Nat.lt_trans g5 (by decide))), (show IntKind.u64.wrap ((p5 : Int) + (p5 : Int) / 4294967296) = (p6 : Int) from qs_ 4294967296 p5 p6 e6 g6), q7_ p6 g6, q8_ p6 _ g6 f6⟩)
  clear f6 e4 e5 e6 g3 g4 g5 g6
  go_enter Tryd.func33, Tryd.ntmps33
  go_upto_region 2 with fail
  rw [H1.out]
  go_upto_region 3 with fail
  rw [H2.out]
  go_upto_region 4 with fail
  rw [H3.out]
  go_upto_region 5 with fail
  rw [HQ.out.1]
  go_upto_region 6 with fail
  rw [HQ.out.2.1]
  go_upto_region 7 with fail
  rw [HQ.out.2.2.1]
  go_wp2_with fail
  rw [HQ.out.2.2.2.1, HQ.out.2.2.2.2]
  go_ret
  exact ⟨rfl, rfl⟩

theorem takeE {P : Program} {md : Region.Mode} {ops : Array Oper} {Q : Exit → Act → World → Prop} {S : World → Prop} {i : Nat} {oi : Oper} {fuel : Nat} {listed : Array Bool} {a : Act} {w : World}
    (hs : Region.noSelect ops = true) (hf : Region.free md ops listed i = true) (hr : (Region.ready md ops listed).contains i = true) (hQ : ∀ c a d v w, Q (.panic c) (Act.put a d v) w → Q (.panic c) a w) (hi : ops[i]? = some oi)
    (t : TypeId) (x y : Operand) (hg : oi.guard = none) (ho : oi.op = .binOp .eql t x y t) (A B : Array Value) (hx : a.eval x = .agg A) (hy : a.eval y = .agg B) (r : Bool) (hm : P.eqGuardType P.depth t = false)
    (h : ∀ W, (Op.equalIn 10000 t (.agg A) (.agg B)).run P W = .ok r W) (hS : S w)
    (hK : wpAnyH P md ops Q S fuel (listed.setIfInBounds i true) (a.put oi.dst (.bool r)) w) : wpAnyH P md ops Q S (fuel + 1) listed a w :=
  wpAnyH_take hi hs hf hr (fun c a w h => hQ c a _ _ w h) (.inl ⟨by simp [Region.wanted, hg], fun W _ => by
    unfold execOp
    simp [ho, hx, hy, run_eqGuard_agg, hm, run_eql_struct, h W, Result.andThen]⟩) hS hK
theorem upTo_le (ws : List Nat) (k : Nat) : (upTo ws k).length ≤ 64 * k := by
  induction k with
  | zero => simp [upTo]
  | succ k ih =>
    have h : (bitsL (ws.getD k 0)).length ≤ 64 := by
      have := List.length_filter_le (ws.getD k 0).testBit (List.range 64)
      rw [List.length_range] at this; exact this
    rw [upTo, List.length_append, List.length_map]; omega
theorem upTo_len {ws : List Nat} {k x : Nat} (h : ws[k]? = some x) : (upTo ws (k + 1)).length = (upTo ws k).length + (bitsL x).length := by
  rw [upTo, List.length_append, List.length_map, List.getD_eq_getElem?_getD, h]; rfl
set_option maxRecDepth 100000 in
set_option maxHeartbeats 4000000 in
theorem len_any (w : World) (v : Value) (ws : List Nat) (hs : IsSet w v ws) : Calls Tryd.prog 12 #[.agg #[v]] w fun e w' => e = .returned (.int .i64 ((elemsW ws).length : Nat)) ∧ Same w w' := by
  have hk : Same w (w.alloc (.cells #[v] 42)) := (Keep.refl _ _).alloc _
  have ha := Blk.made w 42 #[v]
  generalize hw1 : (w.alloc (.cells #[v] 42)) = w1 at *
  have a0 : w1.cell? ⟨w.heap.size, 0, none⟩ = some v := ha.at_ 0
  have HK := hid hk
  have hok := hs.ok
  rcases hs.mem with ⟨rfl, rfl⟩ | ⟨g, rfl, hg, _⟩
  · clear hk ha hs hok
    rw [elems_zero]
    go_enter Tryd.func12, Tryd.ntmps12
    go_upto_region 1 with fail
    try rw [hw1]
    clear hw1
    go_wp2_with fail
    go_ret
    exact ⟨rfl, HK.out⟩
  · have hg1 : IsB w1 g ws := Blk.keep hg hk (fun f => f)
    have HG := hid hg1
    have HOK := hid hok
    clear hk ha hs hok hg
    rw [elems_upTo]
    go_enter Tryd.func12, Tryd.ntmps12
    go_upto_region 1 with fail
    try rw [hw1]
    clear hw1
    go_wp2_with fail
    clear a0
    go_loopw [3, 11] (fun n i wr => ∃ k : Nat, k ≤ 64 ∧ i = .int .i64 k ∧ n = .int .i64 ((upTo ws k).length : Nat) ∧ wr = w1) (fun _ i _ => 64 - (RowKit.intOf i).toNat)
    case atStart => exact ⟨0, by omega, rfl, rfl, rfl⟩
    case round =>
      obtain ⟨k, hk, rfl, rfl, rfl⟩ := hrel
      by_cases hlt : k < 64
      · have hk1 : (k : Int) < 64 := by omega
        obtain ⟨x, hx⟩ : ∃ x, ws[k]? = some x := ⟨_, List.getElem?_eq_getElem (by rw [HOK.out.len]; exact hlt)⟩
        have x1 := hg1.word hx
        have hx64 := HOK.out.each x (List.mem_of_getElem? hx)
        have HON := hid (ones_any wr x hx64)
        have hle := upTo_le ws k
        have hle2 : (bitsL x).length ≤ 64 := by
          have := List.length_filter_le x.testBit (List.range 64)
          rw [List.length_range] at this; exact this
        have HNX := hid (upTo_len hx)
        obtain ⟨y0, hy0⟩ : ∃ y, ws[0]? = some y := ⟨_, List.getElem?_eq_getElem (by rw [HOK.out.len]; decide)⟩
        have c0 : (wr.cell? ⟨g, 0, none⟩).isSome = true := by rw [hg1.word hy0]; rfl
        clear hx hx64 hy0 hg1
        generalize (upTo ws k).length = n0 at *
        go_wp2_with fail
        (with_reducible refine HON.out.mono ?_)
        rintro e w3 ⟨rfl, rfl⟩
        go_wp2_with fail
        go_roundw
        case rel => first | exact ⟨k + 1, by omega, by go_num, congrArg (Value.int .i64) (by rw [HNX.out, Int.natCast_add]), rfl⟩ | exact ⟨k + 1, by omega, by go_num, congrArg (Value.int .i64) (by rw [HNX.out, Int.natCast_add]), trivial⟩ | ((repeat apply Exists.intro); refine And.intro ?_ rfl; exact ⟨k + 1, by omega, by go_num, congrArg (Value.int .i64) (by rw [HNX.out, Int.natCast_add]), trivial⟩) | ((repeat apply Exists.intro); refine And.intro ?_ rfl; exact ⟨k + 1, by omega, by go_num, congrArg (Value.int .i64) (by rw [HNX.out, Int.natCast_add]), rfl⟩)
        case measure => simp [RowKit.intOf]; omega
      · obtain rfl : k = 64 := by omega
        clear hg1
        go_wp2_with fail
        go_ret
        exact ⟨rfl, HK.out⟩

theorem test_int (x r : Nat) (hx : x < 18446744073709551616) : (bits .and .u64 ((x : Int) / 2 ^ r) 1 == 1) = x.testBit r := by
  have h1 : ((x : Int) / 2 ^ r) = ((x / 2 ^ r : Nat) : Int) := by simp
  have h2 : x / 2 ^ r < 18446744073709551616 := Nat.lt_of_le_of_lt (Nat.div_le_self _ _) hx
  rw [h1, show (1 : Int) = ((1 : Nat) : Int) from rfl, bits_and_u64_nat _ _ h2 (by decide), Nat.and_one_is_mod, Nat.testBit_eq_decide_div_mod_eq, Bool.eq_iff_iff, beq_iff_eq, decide_eq_true_eq]
  omega
def hasW (ws : List Nat) (n : Int) : Bool := decide (0 ≤ n ∧ n < 4096) && memW ws n.toNat
theorem nil_ptrI {P : Program} {t e : TypeId} (h : P.underlying t = some (.pointer e)) (W : World) (A : Addr) (d : Nat) : (Op.equalIn (d + 1) t (.pointer none) (.pointer (some A))).run P W = .ok false W := by
  simp [Op.equalIn, run_underlying h]
theorem nil_ptrO {P : Program} {t e : TypeId} (h : P.underlying t = some (.pointer e)) (W : World) (A : Addr) : (Op.equal t (.pointer none) (.pointer (some A))).run P W = .ok false W := nil_ptrI h W A 9999
theorem nil_ptrP {P : Program} {t e : TypeId} (h : P.underlying t = some (.pointer e)) (W : World) (A : Addr) : (binOp .eql t (.pointer none) (.pointer (some A))).run P W = .ok (.bool false) W := by
  simp only [binOp]; simp [nil_ptrO h]
theorem nil_ptr (W : World) (A : Addr) : (binOp .eql 40 (.pointer none) (.pointer (some A))).run Tryd.prog W = .ok (.bool false) W := nil_ptrP Tryd.underlying40 W A
end Go.Proofs.YtnejacmmbfeneaaDoor

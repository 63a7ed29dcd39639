import Derived.Test.YtbellndcgagclaaWireI
namespace Go.Proofs.Ytbellndcgagclaa
open Go.RowKit

/-! ## The reference's encodings -/
/-- an empty literal of the call's own -/
theorem Own.lit0 (w : World) (e : TypeId) (size : Nat) : Own (w.alloc (.cells #[] e)) w.heap.size e size (.slice (some ⟨w.heap.size, 0, none⟩) 0 0) 0 [] :=
  Own.of_blk (Nat.le_refl _) (Blk.made w e #[]) (Nat.le_refl _) (by simp) (by simp) (by simp)
/-- bytes of the call's own -/
def OwnPost (w : World) (bs : List UInt8) (e : Ending) (w' : World) : Prop :=
  ∃ A c, e = .returned (.slice A bs.length c) ∧ Own w' w.heap.size 5 1 (.slice A bs.length c) bs.length (bcells bs) ∧ Same w w'
/-- the loop: x is still to be written -/
def PInt (w : World) (all : List UInt8) (u o : Value) (wr : World) : Prop :=
  ∃ (x : Int) (A : Option Addr) (c k : Nat) (bs : List UInt8), u = .int .u64 x ∧ (0 ≤ x ∧ x ≤ 18446744073709551615) ∧ o = .slice A k c ∧ bs.length = k ∧ Own wr w.heap.size 5 1 (.slice A k c) k (bcells bs) ∧ bs ++ Lib.uvarint x.toNat = all ∧ Same w wr
set_option maxHeartbeats 2000000 in
theorem pInt_any (w : World) (n : Int) (h0 : -9223372036854775808 ≤ n) (h1 : n ≤ 9223372036854775807) :
    Calls Try.prog 47 #[.int .i64 n] w (OwnPost w (encI n)) := by
  have hle : (encI n).length ≤ 10 := encI_le ⟨h0, h1⟩
  have hst : ∀ z : Int, z = ((Lib.zigzag n : Nat) : Int) → PInt w (encI n) (.int .u64 z) (.slice (some ⟨w.heap.size, 0, none⟩) 0 0) (w.alloc (.cells #[] 5)) := fun z hz => ⟨z, _, 0, 0, [], rfl, by have := zigzag_ok (n := n) ⟨h0, h1⟩; omega, rfl, rfl, Own.lit0 w 5 1, by rw [hz]; rfl, (Keep.refl _ w).alloc _⟩
  have HST := hid hst
  have hz1 : 0 ≤ n → n * 2 = ((Lib.zigzag n : Nat) : Int) := fun h => (Lib.zigzag_nonneg h).symm
  have hz2 : n < 0 → -(n + 1) * 2 + 1 = ((Lib.zigzag n : Nat) : Int) := fun h => by unfold Lib.zigzag; rw [if_neg (by omega)]; omega
  have HZ1 := hid hz1
  have HZ2 := hid hz2
  generalize encI n = all at *
  clear hst hz1 hz2
  by_cases hs : 0 ≤ n
  all_goals
    go_enter Try.func47, Try.ntmps47
    go_wp2
    go_loopw [3, 4] (fun u o wr => PInt w all u o wr) (fun u _ _ => (RowKit.intOf u).toNat)
    case atStart =>
      refine HST.out _ ?_
      first | (with_reducible exact HZ1.out hs) | (with_reducible exact HZ2.out (by omega))
    case round =>
      obtain ⟨x, A1, c1, k1, bs1, rfl, ⟨hx0, hx1⟩, rfl, hk1, hO, hall, hK⟩ := hrel
      have hb1 : k1 ≤ 10 := by rw [← hall] at hle; simp at hle; omega
      have HK := hid hK
      by_cases hx2 : 128 ≤ x
      · have HO := hid (World.ownsRow.alloc hO (.cells #[.int .u8 (x % 128 + 128)] 5))
        have HN := hid (show bs1 ++ [(x.toNat % 128 + 128).toUInt8] ++ Lib.uvarint (x / 128).toNat = all by rw [← hall, Lib.uvarint_big (x := x.toNat) (by omega), show (x / 128).toNat = x.toNat / 128 by omega]; simp)
        have HB := hid (show bcells bs1 ++ [.int .u8 (x % 128 + 128)] = bcells (bs1 ++ [(x.toNat % 128 + 128).toUInt8]) by
          rw [bcells_app]; congr 1; simp only [bcells, List.map_cons, List.map_nil, bv, u8_small (show x.toNat % 128 + 128 < 256 by omega)]; congr 2; omega)
        have HK1 := hid hk1
        have hsz := hK.size
        clear hO hall hK hk1
        go_wp2_with (
          at_builtin
          refine EBy.law2 (.tmp 19) (.tmp 24) (.slice A1 k1 c1) (some ⟨wr.heap.size, 0, none⟩) 1 1 rfl rfl rfl rfl w.heap.size k1 (bcells bs1) [.int .u8 (x % 128 + 128)] (k1 + 1) _ rfl rfl HO.out rfl (fun _ => ⟨_, rfl, src_new rfl⟩) (by intro u hu; simp at hu; subst hu; rfl) (by omega) (by unfold maxLen; omega) (by simp; omega) ?_
          intro A' c' w2 ho hg hw
          have HKN := hid ((HK.out.alloc (.cells #[.int .u8 (x % 128 + 128)] 5)).app HO.out hg (fun g h1 h2 => by omega))
          rw [HB.out] at ho
          have HON := hid ho
          clear ho hg hw)
        go_roundw
        case rel => exact ⟨x / 128, A', c', k1 + 1, _, rfl, by omega, rfl, by simp [HK1.out], HON.out, HN.out, HKN.out⟩
        case measure => simp [RowKit.intOf]; omega
      · have hxm : x % 256 = x := by omega
        have HO := hid (World.ownsRow.alloc hO (.cells #[.int .u8 x] 5))
        have HN := hid (show bs1 ++ [x.toNat.toUInt8] = all by rw [← hall, Lib.uvarint_small (by omega)])
        have HB := hid (show bcells bs1 ++ [.int .u8 x] = bcells (bs1 ++ [x.toNat.toUInt8]) by
          rw [bcells_app]; congr 1; simp only [bcells, List.map_cons, List.map_nil, bv, u8_small (show x.toNat < 256 by omega)]; congr 2; omega)
        have HK1 := hid hk1
        have hsz := hK.size
        clear hO hall hK hk1
        go_wp2_with (
          at_builtin
          refine EBy.law2 (.tmp 28) (.tmp 31) (.slice A1 k1 c1) (some ⟨wr.heap.size, 0, none⟩) 1 1 rfl rfl rfl rfl w.heap.size k1 (bcells bs1) [.int .u8 x] (k1 + 1) _ rfl rfl HO.out rfl (fun _ => ⟨_, rfl, src_new rfl⟩) (by intro u hu; simp at hu; subst hu; rfl) (by omega) (by unfold maxLen; omega) (by simp; omega) ?_
          intro A' c' w2 ho hg hw
          have HKN := hid ((HK.out.alloc (.cells #[.int .u8 x] 5)).app HO.out hg (fun g h1 h2 => by omega))
          rw [HB.out] at ho
          have HON := hid ho
          clear ho hg hw)
        go_ret
        have hlen : all.length = k1 + 1 := by rw [← HN.out]; simp [HK1.out]
        refine ⟨A', c', by rw [hlen]; rfl, ?_, HKN.out⟩
        rw [hlen, ← HN.out]
        exact HON.out
end Go.Proofs.Ytbellndcgagclaa

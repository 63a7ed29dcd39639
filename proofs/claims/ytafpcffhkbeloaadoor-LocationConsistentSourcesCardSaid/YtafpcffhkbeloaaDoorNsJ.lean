import Derived.Test.YtafpcffhkbeloaaDoorNsB
namespace Go.Proofs.YtafpcffhkbeloaaDoor
open Go.RowKit

def upN (n : Nat) : List Int := (List.range n).map Int.ofNat
theorem upN_succ (n : Nat) : upN (n + 1) = upN n ++ [(n : Int)] := by simp [upN, List.range_succ]
set_option maxRecDepth 100000 in
set_option maxHeartbeats 4000000 in
theorem all_any (w : World) (n : Nat) (hn : n ≤ 4096) :
    Calls Tryd.prog 32 #[.int .i64 n] w (SetPost w (ofW (upN n))) := by
  have hk : Same w ((w.alloc (.cells #[.pointer none] 32)).alloc (.cells (wcells zeroW).toArray 72)) := ((Keep.refl _ _).alloc _).alloc _
  have hb := IsB.new (w.alloc (.cells #[.pointer none] 32))
  have ha := (Blk.made w 32 #[.pointer none]).alloc (.cells (wcells zeroW).toArray 72)
  rw [World.size_alloc] at hb
  go_enter Tryd.func32, Tryd.ntmps32
  go_upto_region 2 with fail
  rw [zero_lit] at hk ha
  have hb : IsB ((w.alloc (.cells #[.pointer none] 32)).alloc (.cells #[.int .u64 0, .int .u64 0, .int .u64 0, .int .u64 0, .int .u64 0, .int .u64 0, .int .u64 0, .int .u64 0, .int .u64 0, .int .u64 0, .int .u64 0, .int .u64 0, .int .u64 0, .int .u64 0, .int .u64 0, .int .u64 0, .int .u64 0, .int .u64 0, .int .u64 0, .int .u64 0, .int .u64 0, .int .u64 0, .int .u64 0, .int .u64 0, .int .u64 0, .int .u64 0, .int .u64 0, .int .u64 0, .int .u64 0, .int .u64 0, .int .u64 0, .int .u64 0, .int .u64 0, .int .u64 0, .int .u64 0, .int .u64 0, .int .u64 0, .int .u64 0, .int .u64 0, .int .u64 0, .int .u64 0, .int .u64 0, .int .u64 0, .int .u64 0, .int .u64 0, .int .u64 0, .int .u64 0, .int .u64 0, .int .u64 0, .int .u64 0, .int .u64 0, .int .u64 0, .int .u64 0, .int .u64 0, .int .u64 0, .int .u64 0, .int .u64 0, .int .u64 0, .int .u64 0, .int .u64 0, .int .u64 0, .int .u64 0, .int .u64 0, .int .u64 0] 72)) (w.heap.size + 1) zeroW := by rw [← zero_lit]; exact hb
  generalize hw1 : ((w.alloc (.cells #[.pointer none] 32)).alloc (.cells #[.int .u64 0, .int .u64 0, .int .u64 0, .int .u64 0, .int .u64 0, .int .u64 0, .int .u64 0, .int .u64 0, .int .u64 0, .int .u64 0, .int .u64 0, .int .u64 0, .int .u64 0, .int .u64 0, .int .u64 0, .int .u64 0, .int .u64 0, .int .u64 0, .int .u64 0, .int .u64 0, .int .u64 0, .int .u64 0, .int .u64 0, .int .u64 0, .int .u64 0, .int .u64 0, .int .u64 0, .int .u64 0, .int .u64 0, .int .u64 0, .int .u64 0, .int .u64 0, .int .u64 0, .int .u64 0, .int .u64 0, .int .u64 0, .int .u64 0, .int .u64 0, .int .u64 0, .int .u64 0, .int .u64 0, .int .u64 0, .int .u64 0, .int .u64 0, .int .u64 0, .int .u64 0, .int .u64 0, .int .u64 0, .int .u64 0, .int .u64 0, .int .u64 0, .int .u64 0, .int .u64 0, .int .u64 0, .int .u64 0, .int .u64 0, .int .u64 0, .int .u64 0, .int .u64 0, .int .u64 0, .int .u64 0, .int .u64 0, .int .u64 0, .int .u64 0] 72)) = w1 at *
  have HB := hid hb
  have HA := hid ha
  have HK := hid hk
  have hmin : min (n : Int) 4096 = (n : Int) := by omega
  clear hw1 hk hb ha
  go_upto_region 3 with fail
  try rw [hmin]
  go_loopw [7] (fun i wr => ∃ k : Nat, k ≤ n ∧ i = .int .i64 k ∧ Hid (IsB wr (w.heap.size + 1) (ofW (upN k)) ∧ Keep (fun i => i = w.heap.size + 1) w1 wr)) (fun i _ => n - (RowKit.intOf i).toNat)
  case atStart => exact ⟨0, by omega, rfl, hid ⟨by exact HB.out, Keep.refl _ _⟩⟩
  case round =>
    obtain ⟨k, hk, rfl, HI⟩ := hrel
    by_cases hlt : k < n
    · have hk1 : (k : Int) < (n : Int) := by omega
      have HST := hid (show ofW (upN (k + 1)) = addW (ofW (upN k)) k from by rw [upN_succ, ofW_snoc, if_pos (by omega)]; rfl)
      have HAD := hid (add_any wr (w.heap.size + 1) k _ HI.out.1 (ofW_ok _) (by omega))
      go_wp2_with fail
      (with_reducible refine HAD.out.mono ?_)
      rintro e w3 ⟨rfl, hb3, hk3⟩
      have HB3 := hid hb3
      have HK3 := hid (HI.out.2.trans hk3 (fun _ _ e => e))
      clear hb3 hk3
      go_wp2_with fail
      go_roundw
      case rel => first | exact ⟨k + 1, by omega, by go_num, hid ⟨by rw [HST.out]; exact HB3.out, HK3.out⟩⟩ | ((repeat apply Exists.intro); refine And.intro ?_ rfl; exact ⟨k + 1, by omega, by go_num, hid ⟨by rw [HST.out]; exact HB3.out, HK3.out⟩⟩)
      case measure => simp [RowKit.intOf]; omega
    · obtain rfl : k = n := by omega
      have HI2 := HI
      have HSO := hid (setOf_any wr (w.heap.size + 1) (ofW (upN k)) HI.out.1 (ofW_ok _))
      have HA2 := hid (HA.out.keep HI.out.2 (show ¬ (fun i => i = w.heap.size + 1) w.heap.size from by show ¬ w.heap.size = w.heap.size + 1; omega))
      go_wp2_with fail
      (with_reducible refine HSO.out.mono ?_)
      rintro e w3 ⟨v, rfl, hs3, hk3, hv3⟩
      have HS3 := hid hs3
      have HA3 := hid (HA2.out.keep hk3 (fun f => f))
      have HK3 := hid (HI2.out.2.then hk3)
      clear hk3 hs3
      go_wp2_with (refine wpList_store_row rfl _ (.tmp 2) (.tmp 13) rfl w.heap.size #[v] rfl rfl _ _ HA3.out (by kernel_rfl) rfl HS3.out.one ?_)
      refine bodyPost_ret (results_cell_row rfl _ _ _ _ _ _ _ rfl (Blk.row HA3.out #[v]) Tryd.underlying32 rfl (by kernel_rfl)) rfl ?_
      refine SetPost.mk HS3.out (HK.out.trans HK3.out (fun i hi e => by have e2 : i = w.heap.size + 1 := e; omega)) (Keep.row _ _ _) ?_
      intro g' e
      have := hv3 g' e
      omega
end Go.Proofs.YtafpcffhkbeloaaDoor

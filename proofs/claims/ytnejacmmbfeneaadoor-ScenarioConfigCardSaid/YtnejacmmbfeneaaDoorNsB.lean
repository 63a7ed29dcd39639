import Derived.Test.YtnejacmmbfeneaaDoorNsA
namespace Go.Proofs.YtnejacmmbfeneaaDoor
open Go.RowKit

theorem shl_one (j : Nat) (h : j < 64) : IntKind.u64.wrap ((2 : Int) ^ j) = ((2 ^ j : Nat) : Int) := by
  have h1 : 2 ^ j < 18446744073709551616 := Nat.pow_lt_pow_right (n := 64) (by decide) h
  rw [IntKind.wrap_u64]
  have : ((2 : Int) ^ j) = ((2 ^ j : Nat) : Int) := by simp
  rw [this]
  generalize 2 ^ j = p at *
  omega
set_option maxRecDepth 100000 in
set_option maxHeartbeats 4000000 in
theorem add_any (w : World) (g n : Nat) (ws : List Nat) (hb : IsB w g ws) (hok : OkW ws) (hn : n < 4096) :
    Calls Tryd.prog 31 #[.pointer (some ⟨g, 0, none⟩), .int .i64 n] w fun e w' => e = .returned (.tuple #[]) ∧ IsB w' g (addW ws n) ∧ Keep (fun i => i = g) w w' := by
  obtain ⟨x, hx⟩ : ∃ x, ws[n / 64]? = some x := ⟨_, List.getElem?_eq_getElem (by rw [hok.len]; omega)⟩
  have hx2 : ws.getD (n / 64) 0 = x := by rw [List.getD_eq_getElem?_getD, hx]; rfl
  have hlx := hok.each x (List.mem_of_getElem? hx)
  have hp : 2 ^ (n % 64) < 18446744073709551616 := Nat.pow_lt_pow_right (n := 64) (by decide) (Nat.mod_lt _ (by decide))
  have HOR := hid (bits_or_u64_nat x (2 ^ (n % 64)) hlx hp)
  have HSH := hid (shl_one (n % 64) (Nat.mod_lt _ (by decide)))
  have hc := hb.word hx
  have hf := Blk.free hb (n / 64)
  have HB := hid hb
  have e0 : addW ws n = ws.set (n / 64) (x ||| 2 ^ (n % 64)) := by rw [addW, hx2]
  have hd : ((n : Int)).tdiv 64 = ((n / 64 : Nat) : Int) := by rw [Int.tdiv_eq_ediv_of_nonneg (by omega)]; omega
  have hm : ((n : Int)).tmod 64 = ((n % 64 : Nat) : Int) := by rw [Int.tmod_eq_emod_of_nonneg (by omega)]; omega
  have q1 : ((n / 64 : Nat) : Int) < 64 := by omega
  have q2 : ((n % 64 : Nat) : Int) < 64 := by omega
  have c0 : (w.cell? ⟨g, 0, none⟩).isSome = true := by
    obtain ⟨y, hy⟩ : ∃ y, ws[0]? = some y := ⟨_, List.getElem?_eq_getElem (by rw [hok.len]; decide)⟩
    rw [hb.word hy]; rfl
  have hwq := IntWalk.i64_in ((n / 64 : Nat) : Int) (by omega)
  have hwr := IntWalk.i64_in ((n % 64 : Nat) : Int) (by omega)
  rw [e0]
  clear hb hx hx2 e0 hok
  generalize n / 64 = q at *
  generalize n % 64 = r at *
  go_enter Tryd.func31, Tryd.ntmps31
  go_region_with (fail)
  rw [HSH.out, HOR.out]
  go_end0
  exact ⟨rfl, Blk.drew (IsB.put HB.out q (x ||| 2 ^ r)), ((Keep.refl _ w).put q _).drew⟩

set_option maxRecDepth 100000 in
set_option maxHeartbeats 4000000 in
theorem of_any (w : World) (Av : Nat → Prop) (A : Option Addr) (l : List Int) (c : Nat) (hl : Sl w Av 1 A l.length (icells l)) (hn : l.length ≤ 1000000) :
    Calls Tryd.prog 11 #[.slice A l.length c] w (SetPost w (ofW l)) := by
  have hk : Same w ((w.alloc (.cells #[.pointer none] 42)).alloc (.cells (wcells zeroW).toArray 79)) := ((Keep.refl _ _).alloc _).alloc _
  have hb := IsB.new (w.alloc (.cells #[.pointer none] 42))
  have ha := (Blk.made w 42 #[.pointer none]).alloc (.cells (wcells zeroW).toArray 79)
  rw [World.size_alloc] at hb
  go_enter Tryd.func11, Tryd.ntmps11
  go_upto_region 2 with fail
  rw [zero_lit] at hk ha
  have hb : IsB ((w.alloc (.cells #[.pointer none] 42)).alloc (.cells #[.int .u64 0, .int .u64 0, .int .u64 0, .int .u64 0, .int .u64 0, .int .u64 0, .int .u64 0, .int .u64 0, .int .u64 0, .int .u64 0, .int .u64 0, .int .u64 0, .int .u64 0, .int .u64 0, .int .u64 0, .int .u64 0, .int .u64 0, .int .u64 0, .int .u64 0, .int .u64 0, .int .u64 0, .int .u64 0, .int .u64 0, .int .u64 0, .int .u64 0, .int .u64 0, .int .u64 0, .int .u64 0, .int .u64 0, .int .u64 0, .int .u64 0, .int .u64 0, .int .u64 0, .int .u64 0, .int .u64 0, .int .u64 0, .int .u64 0, .int .u64 0, .int .u64 0, .int .u64 0, .int .u64 0, .int .u64 0, .int .u64 0, .int .u64 0, .int .u64 0, .int .u64 0, .int .u64 0, .int .u64 0, .int .u64 0, .int .u64 0, .int .u64 0, .int .u64 0, .int .u64 0, .int .u64 0, .int .u64 0, .int .u64 0, .int .u64 0, .int .u64 0, .int .u64 0, .int .u64 0, .int .u64 0, .int .u64 0, .int .u64 0, .int .u64 0] 79)) (w.heap.size + 1) zeroW := by rw [← zero_lit]; exact hb
  generalize hw1 : ((w.alloc (.cells #[.pointer none] 42)).alloc (.cells #[.int .u64 0, .int .u64 0, .int .u64 0, .int .u64 0, .int .u64 0, .int .u64 0, .int .u64 0, .int .u64 0, .int .u64 0, .int .u64 0, .int .u64 0, .int .u64 0, .int .u64 0, .int .u64 0, .int .u64 0, .int .u64 0, .int .u64 0, .int .u64 0, .int .u64 0, .int .u64 0, .int .u64 0, .int .u64 0, .int .u64 0, .int .u64 0, .int .u64 0, .int .u64 0, .int .u64 0, .int .u64 0, .int .u64 0, .int .u64 0, .int .u64 0, .int .u64 0, .int .u64 0, .int .u64 0, .int .u64 0, .int .u64 0, .int .u64 0, .int .u64 0, .int .u64 0, .int .u64 0, .int .u64 0, .int .u64 0, .int .u64 0, .int .u64 0, .int .u64 0, .int .u64 0, .int .u64 0, .int .u64 0, .int .u64 0, .int .u64 0, .int .u64 0, .int .u64 0, .int .u64 0, .int .u64 0, .int .u64 0, .int .u64 0, .int .u64 0, .int .u64 0, .int .u64 0, .int .u64 0, .int .u64 0, .int .u64 0, .int .u64 0, .int .u64 0] 79)) = w1 at *
  have HB := hid hb
  have HA := hid ha
  have HK := hid hk
  have HL := hid (fun W (hk2 : Keep (fun i => i = w.heap.size + 1) w1 W) => ((hl.old.same hk).wide (Av' := fun i => i = w.heap.size + 1) (fun i _ e => by have e2 : i = w.heap.size + 1 := e; omega)).keep hk2 (fun i _ e => e))
  clear hw1 hk hb ha hl
  go_wp2_with fail
  go_loopw [8] (fun i wr => ∃ k : Nat, k ≤ l.length ∧ i = .int .i64 k ∧ Hid (IsB wr (w.heap.size + 1) (ofW (l.take k)) ∧ Keep (fun i => i = w.heap.size + 1) w1 wr)) (fun i _ => l.length - (RowKit.intOf i).toNat)
  case atStart => exact ⟨0, by omega, rfl, hid ⟨by rw [List.take_zero]; exact HB.out, Keep.refl _ _⟩⟩
  case round =>
    obtain ⟨k, hk, rfl, HI⟩ := hrel
    by_cases hlt : k < l.length
    · obtain ⟨x, hx⟩ := get_some hlt
      have hk1 : (k : Int) < (l.length : Int) := by omega
      obtain ⟨b, o, rfl, _, hc⟩ := ints_in (HL.out wr HI.out.2) hx
      have HST := hid (show ofW (l.take (k + 1)) = if 0 ≤ x ∧ x < 4096 then addW (ofW (l.take k)) x.toNat else ofW (l.take k) from by rw [take_snoc' hx, ofW_snoc])
      clear hx
      by_cases h0 : 0 ≤ x
      · by_cases h1 : x < 4096
        · have HAD := hid (add_any wr (w.heap.size + 1) x.toNat _ HI.out.1 (ofW_ok _) (by omega))
          rw [show ((x.toNat : Nat) : Int) = x by omega] at HAD
          go_wp2_with fail
          (with_reducible refine HAD.out.mono ?_)
          rintro e w3 ⟨rfl, hb3, hk3⟩
          have HB3 := hid hb3
          have HK3 := hid (HI.out.2.trans hk3 (fun _ _ e => e))
          have H01 := hid (show 0 ≤ x ∧ x < 4096 from ⟨h0, h1⟩)
          clear hb3 hk3
          go_wp2_with fail
          go_roundw
          case rel => first | exact ⟨k + 1, by omega, by go_num, hid ⟨by rw [HST.out, if_pos H01.out]; exact HB3.out, HK3.out⟩⟩ | ((repeat apply Exists.intro); refine And.intro ?_ rfl; exact ⟨k + 1, by omega, by go_num, hid ⟨by rw [HST.out, if_pos H01.out]; exact HB3.out, HK3.out⟩⟩)
          case measure => simp [RowKit.intOf]; omega
        · have h1 : 4096 ≤ x := by omega
          go_wp2_with fail
          go_roundw
          case rel => first | exact ⟨k + 1, by omega, by go_num, hid ⟨by rw [HST.out, if_neg (by omega)]; exact HI.out.1, HI.out.2⟩⟩ | ((repeat apply Exists.intro); refine And.intro ?_ rfl; exact ⟨k + 1, by omega, by go_num, hid ⟨by rw [HST.out, if_neg (by omega)]; exact HI.out.1, HI.out.2⟩⟩)
          case measure => simp [RowKit.intOf]; omega
      · have h0 : x < 0 := by omega
        go_wp2_with fail
        go_roundw
        case rel => first | exact ⟨k + 1, by omega, by go_num, hid ⟨by rw [HST.out, if_neg (by omega)]; exact HI.out.1, HI.out.2⟩⟩ | ((repeat apply Exists.intro); refine And.intro ?_ rfl; exact ⟨k + 1, by omega, by go_num, hid ⟨by rw [HST.out, if_neg (by omega)]; exact HI.out.1, HI.out.2⟩⟩)
        case measure => simp [RowKit.intOf]; omega
    · obtain rfl : k = l.length := by omega
      have hI := HI.out
      rw [List.take_of_length_le (Nat.le_refl _)] at hI
      have HI2 := hid hI
      have HSO := hid (setOf_any wr (w.heap.size + 1) (ofW l) hI.1 (ofW_ok l))
      have ha2 := HA.out.keep hI.2 (show ¬ (fun i => i = w.heap.size + 1) w.heap.size from by show ¬ w.heap.size = w.heap.size + 1; omega)
      have HA2 := hid ha2
      clear hI ha2
      go_wp2_with fail
      (with_reducible refine HSO.out.mono ?_)
      rintro e w3 ⟨v, rfl, hs3, hk3, hv3⟩
      have HS3 := hid hs3
      have ha3 := HA2.out.keep hk3 (fun f => f)
      have HA3 := hid ha3
      have HK3 := hid (HI2.out.2.then hk3)
      clear ha3 hk3 hs3
      go_wp2_with (refine wpList_store_row rfl _ (.tmp 2) (.tmp 21) rfl w.heap.size #[v] rfl rfl _ _ HA3.out (by kernel_rfl) rfl HS3.out.one ?_)
      refine bodyPost_ret (results_cell_row rfl _ _ _ _ _ _ _ rfl (Blk.row HA3.out #[v]) Tryd.underlying42 rfl (by kernel_rfl)) rfl ?_
      refine SetPost.mk HS3.out (HK.out.trans HK3.out (fun i hi e => by have e2 : i = w.heap.size + 1 := e; omega)) (Keep.row _ _ _) ?_
      intro g' e
      have := hv3 g' e
      omega
end Go.Proofs.YtnejacmmbfeneaaDoor

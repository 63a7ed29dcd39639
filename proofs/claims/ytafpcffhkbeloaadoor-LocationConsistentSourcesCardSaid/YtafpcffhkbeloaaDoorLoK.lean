import Derived.Test.YtafpcffhkbeloaaDoorLoJ
namespace Go.Proofs.YtafpcffhkbeloaaDoor
open Go.RowKit

/-! ## Agree -/
def agreeL (all : List Int) (l : List (Int × List Int)) : List Int := l.foldl (fun a s => bothL a (setL s.2)) (setL all)
theorem agreeL_snoc (all : List Int) (l : List Sr) {k : Nat} {s : Sr} (h : l[k]? = some s) : agreeL all (keys (l.take (k + 1))) = bothL (agreeL all (keys (l.take k))) (setL s.ns) := by
  rw [List.take_add_one, h]
  simp [agreeL, keys, Sr.key]
theorem setL_le (l : List Int) : (setL l).length ≤ 4096 := by
  rw [setL_eq]; exact elemsI_le _
theorem agreeL_le (all : List Int) (l : List (Int × List Int)) : (agreeL all l).length ≤ 4096 := by
  have h : ∀ (l : List (Int × List Int)) (a : List Int), a.length ≤ 4096 → (l.foldl (fun a s => bothL a (setL s.2)) a).length ≤ 4096 := by
    intro l
    induction l with
    | nil => exact fun a h => h
    | cons x l ih => exact fun a h => ih _ (Nat.le_trans (by unfold bothL; exact List.length_filter_le _ _) h)
  exact h l _ (setL_le all)
set_option maxRecDepth 100000 in
set_option maxHeartbeats 8000000 in
theorem agree_any (w : World) (Av Bv : Nat → Prop) (A : Option Addr) (ca : Nat) (all : List Int) (ha : Sl w Bv 1 A all.length (icells all)) (hal : all.length ≤ 1000) (X : Option Addr) (c : Nat) (l : List Sr) (h : Srs w Av X l) (hn : ∀ s ∈ l, s.ns.length ≤ 1000) (hlen : l.length ≤ 1000000) :
    Calls Tryd.prog 26 #[.slice A all.length ca, .slice X l.length c] w fun e w' => e = .returned (.bool (decide (0 < (agreeL all (keys l)).length))) ∧ Same w w' := by
  have HS := hid h
  have HN := hid hn
  have HT := hid (set_any w Bv A ca all ha hal)
  unfold IntsPost at HT
  clear h hn ha
  go_enter Tryd.func26, Tryd.ntmps26
  go_wp2_with fail
  (with_reducible refine HT.out.mono ?_)
  rintro e w1 ⟨B1, d1, rfl, hs1, hk1⟩
  have HS1 := hid hs1
  have HK1 := hid hk1
  clear hs1 hk1
  go_wp2_with fail
  go_loopw [5, 6] (fun v i wr => ∃ (k : Nat) (B : Option Addr) (d : Nat), k ≤ l.length ∧ i = .int .i64 k ∧ v = .slice B (agreeL all (keys (l.take k))).length d ∧ Hid (Sl wr (fun _ => False) 1 B (agreeL all (keys (l.take k))).length (icells (agreeL all (keys (l.take k)))) ∧ Same w wr)) (fun _ i _ => l.length - (RowKit.intOf i).toNat)
  case atStart => exact ⟨0, B1, d1, by omega, rfl, rfl, hid ⟨Sl.wide HS1.out (fun _ _ f => f.elim), HK1.out⟩⟩
  case round =>
    obtain ⟨k, B, d, hk, rfl, rfl, HI⟩ := hrel
    by_cases hlt : k < l.length
    · obtain ⟨s, hks⟩ := get_some hlt
      have hk1 : (k : Int) < (l.length : Int) := by omega
      obtain ⟨b1, o1, rfl, hbl, hrow, c0, c1, hso, _⟩ := Srs.at_ (HS.out.same HI.out.2) hks
      have HSN := hid (agreeL_snoc all l hks)
      have HTT := hid (set_any wr Av s.A s.c s.ns hso (HN.out s (List.mem_of_getElem? hks)))
      unfold IntsPost at HTT
      have HLE := hid (agreeL_le all (keys (l.take k)))
      clear hrow hso hks
      go_wp2_with fail
      (with_reducible refine HTT.out.mono ?_)
      rintro e w5 ⟨B5, d5, rfl, hs5, hk5⟩
      have HBO := hid (both_any w5 _ _ B B5 d d5 _ _ (HI.out.1.same hk5) hs5 (by have := HLE.out; omega) (by have := setL_le s.ns; omega))
      unfold IntsPost at HBO
      have HK5 := hid (HI.out.2.then hk5)
      clear hs5 hk5 c0 c1
      go_wp2_with fail
      (with_reducible refine HBO.out.mono ?_)
      rintro e w6 ⟨B6, d6, rfl, hs6, hk6⟩
      have HS6 := hid hs6
      have HK6 := hid (HK5.out.then hk6)
      clear hs6 hk6
      go_wp2_with fail
      go_roundw
      case rel => exact ⟨k + 1, B6, d6, by omega, by go_num, by rw [HSN.out], hid ⟨by rw [HSN.out]; exact Sl.wide HS6.out (fun _ _ f => f.elim), HK6.out⟩⟩
      case measure => simp only [RowKit.intOf]; omega
    · have hk2 : (l.length : Int) ≤ (k : Int) := by omega
      have e : k = l.length := by omega
      have HE := hid (show agreeL all (keys (l.take k)) = agreeL all (keys l) from by rw [e, List.take_length])
      clear hk e
      go_wp2_with fail
      go_ret
      exact ⟨by rw [HE.out]; simp, HI.out.2⟩
end Go.Proofs.YtafpcffhkbeloaaDoor

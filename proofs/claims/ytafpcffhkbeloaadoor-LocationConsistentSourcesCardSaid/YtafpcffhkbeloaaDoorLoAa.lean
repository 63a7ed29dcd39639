import Derived.Test.YtafpcffhkbeloaaDoorNsA
import Derived.Deep.CutRange
namespace Go.Proofs.YtafpcffhkbeloaaDoor
open Go.RowKit

/-! ## Location's references over lists of nodes -/
theorem EInt : Elem Tryd.prog 22 3 1 8 (.int .i64 0) := ⟨Tryd.underlying22, by kernel_rfl, rfl, by decide⟩
theorem any_eq_snoc {l : List Int} {k : Nat} {a x : Int} (h : l[k]? = some a) (hn : (l.take k).contains x = false) : (l.take (k + 1)).contains x = (a == x) := by
  rw [take_snoc' h, List.contains_eq_any_beq, List.any_append, ← List.contains_eq_any_beq, hn]
  simp only [List.any_cons, List.any_nil, Bool.or_false, Bool.false_or]
  rw [Bool.eq_iff_iff, beq_iff_eq, beq_iff_eq]; exact eq_comm
theorem contains_of_at {l : List Int} {k : Nat} {x : Int} (h : l[k]? = some x) : l.contains x = true := List.contains_iff_mem.2 (List.mem_of_getElem? h)
set_option maxRecDepth 100000 in
set_option maxHeartbeats 4000000 in
theorem has07_any (w : World) (Av : Nat → Prop) (A : Option Addr) (c : Nat) (l : List Int) (hl : Sl w Av 1 A l.length (icells l)) (hn : l.length ≤ 1000000) (x : Int) :
    Calls Tryd.prog 29 #[.slice A l.length c, .int .i64 x] w fun e w' => e = .returned (.bool (l.contains x)) ∧ w' = w := by
  have HL := hid hl
  clear hl
  go_enter Tryd.func29, Tryd.ntmps29
  go_wp2_with fail
  go_loopw [5] (fun i wr => ∃ k : Nat, k ≤ l.length ∧ i = .int .i64 k ∧ Hid ((l.take k).contains x = false) ∧ wr = w) (fun i _ => l.length - (RowKit.intOf i).toNat)
  case atStart => exact ⟨0, by omega, rfl, hid (by simp), rfl⟩
  case round =>
    obtain ⟨k, hk, rfl, HN, rfl⟩ := hrel
    by_cases hlt : k < l.length
    · obtain ⟨a, ha⟩ := get_some hlt
      have hk1 : (k : Int) < (l.length : Int) := by omega
      obtain ⟨b, o, rfl, _, hc⟩ := ints_in HL.out ha
      have HS := hid (any_eq_snoc ha HN.out)
      by_cases hx : a = x
      · have hq : (a == x) = true := by simp [hx]
        have HC := hid (contains_of_at ha)
        rw [hx] at HC
        have HX := hid hx
        clear hx ha
        go_wp2_with fail
        go_ret
        exact ⟨by rw [HC.out]; rfl, rfl⟩
      · have hq : (a == x) = false := by simp [hx]
        rw [hq] at HS
        clear hx ha
        go_wp2_with fail
        go_roundw
        case rel => first | exact ⟨k + 1, by omega, by go_num, HS, rfl⟩ | exact ⟨k + 1, by omega, by go_num, HS, trivial⟩
        case measure => simp [RowKit.intOf]; omega
    · obtain rfl : k = l.length := by omega
      have hN := HN.out
      rw [List.take_of_length_le (Nat.le_refl _)] at hN
      have HN2 := hid hN
      clear hN
      go_wp2_with fail
      go_ret
      exact ⟨by rw [HN2.out]; rfl, rfl⟩

theorem take_ne {a b : List Int} (hab : a.length = b.length) {k : Nat} {x y : Int} (hx : a[k]? = some x) (hy : b[k]? = some y) (h : x ≠ y) : a ≠ b := by
  rintro rfl; rw [hx] at hy; cases hy; exact h rfl
theorem take_eq_snoc {a b : List Int} {k : Nat} {x y : Int} (hx : a[k]? = some x) (hy : b[k]? = some y) (h : x = y) (hp : a.take k = b.take k) : a.take (k + 1) = b.take (k + 1) := by
  rw [take_snoc' hx, take_snoc' hy, hp, h]
set_option maxRecDepth 100000 in
set_option maxHeartbeats 4000000 in
theorem same07_any (w : World) (Av Bv : Nat → Prop) (A B : Option Addr) (ca cb : Nat) (a b : List Int) (ha : Sl w Av 1 A a.length (icells a)) (hb : Sl w Bv 1 B b.length (icells b)) (hn : a.length ≤ 1000000) (hm : b.length ≤ 1000000) :
    Calls Tryd.prog 33 #[.slice A a.length ca, .slice B b.length cb] w fun e w' => e = .returned (.bool (decide (a = b))) ∧ Same w w' := by
  have HA := hid ha
  have HB := hid hb
  clear ha hb
  by_cases hab : (a.length : Int) = (b.length : Int)
  · have hne : ((a.length : Int) != (b.length : Int)) = false := by simp [hab]
    have hab2 : a.length = b.length := by omega
    have HAB := hid hab2
    clear hab hab2
    go_enter Tryd.func33, Tryd.ntmps33
    go_wp2_with fail
    go_loopw [5] (fun i wr => ∃ k : Nat, k ≤ a.length ∧ i = .int .i64 k ∧ Hid (a.take k = b.take k) ∧ Hid (Same w wr)) (fun i _ => a.length - (RowKit.intOf i).toNat)
    case atStart => exact ⟨0, by omega, rfl, hid (by simp), hid (Keep.refl _ _)⟩
    case round =>
      obtain ⟨k, hk, rfl, HP, HI⟩ := hrel
      by_cases hlt : k < a.length
      · obtain ⟨x, hx⟩ := get_some hlt
        obtain ⟨y, hy⟩ := get_some (show k < b.length from by have := HAB.out; omega)
        have hk1 : (k : Int) < (a.length : Int) := by omega
        have hk2 : (k : Int) < (b.length : Int) := by have := HAB.out; omega
        obtain ⟨b1, o1, rfl, _, q1⟩ := ints_in (HA.out.same HI.out) hx
        obtain ⟨b2, o2, rfl, _, q2⟩ := ints_in (HB.out.same HI.out) hy
        by_cases hxy : x = y
        · have hq : (x != y) = false := by simp [hxy]
          have HNX := hid (take_eq_snoc hx hy hxy HP.out)
          clear hxy hx hy
          go_wp2_with fail
          go_quiet (fail)
          go_wp2_with fail
          go_roundw
          case rel => exact ⟨k + 1, by omega, by go_num, HNX, hid (HI.out.drewN _)⟩
          case measure => simp [RowKit.intOf]; omega
        · have hq : (x != y) = true := by simp [hxy]
          have HNX := hid (take_ne HAB.out hx hy hxy)
          clear hxy hx hy
          go_wp2_with fail
          go_quiet (fail)
          go_wp2_with fail
          go_ret
          exact ⟨by rw [show decide (a = b) = false from by simp; exact HNX.out]; rfl, HI.out.drewN _⟩
      · obtain rfl : k = a.length := by omega
        have hP := HP.out
        rw [List.take_of_length_le (Nat.le_refl _), List.take_of_length_le (by have := HAB.out; omega)] at hP
        have HP2 := hid hP
        clear hP
        go_wp2_with fail
        go_ret
        exact ⟨by rw [show decide (a = b) = true from by simp; exact HP2.out]; rfl, HI.out⟩
  · have hne : ((a.length : Int) != (b.length : Int)) = true := by simp; omega
    have HAB := hid (show a ≠ b from by rintro rfl; exact hab rfl)
    clear hab
    go_enter Tryd.func33, Tryd.ntmps33
    go_wp2_with fail
    go_ret
    exact ⟨by rw [show decide (a = b) = false from by simp; exact HAB.out]; rfl, Keep.refl _ _⟩

end Go.Proofs.YtafpcffhkbeloaaDoor

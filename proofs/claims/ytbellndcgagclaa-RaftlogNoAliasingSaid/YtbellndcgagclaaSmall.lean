import Derived.Test.YtbellndcgagclaaMem
import Derived.WideShapes
namespace Go.Proofs.Ytbellndcgagclaa
open Go.RowKit

theorem Keep.two (w : World) (o o' : Obj) : Same w ((w.alloc o).alloc o') := ((Keep.refl _ w).alloc o).alloc o'
theorem str_beq {a b : List Int} (ha : ∀ x ∈ a, 0 ≤ x ∧ x ≤ 255) (hb : ∀ x ∈ b, 0 ≤ x ∧ x ≤ 255) : ((strOfNums a).toList == (strOfNums b).toList) = decide (a = b) := by
  by_cases h : a = b
  · subst h; simp
  · have : ¬ (strOfNums a).toList = (strOfNums b).toList := fun e => h (strOfNums_inj ha hb (by rw [ByteArray.toList_eq, ByteArray.toList_eq] at e; exact Go.WideShapes.bytes_inj e))
    simp [h, this]
set_option maxRecDepth 100000 in
theorem alike_any (w : World) (Av : Nat → Prop) (a b : En) (ha : EnOk w Av a) (hb : EnOk w Av b) : Calls Try.prog 25 #[a.val, b.val] w fun e w' => e = .returned (.bool (peq a.pe b.pe)) ∧ Same w w' := by
  obtain ⟨t, k, A, m, c, x⟩ := a
  obtain ⟨t', k', B, n, d, y⟩ := b
  have hk := Keep.two w (.cells #[.int .i64 t, .int .i64 k, .slice A m c] 46) (.cells #[.int .i64 t', .int .i64 k', .slice B n d] 46)
  have hsa := str_of _ Av A m c x (ha.body.same hk)
  have hsb := str_of _ Av B n d y (hb.body.same hk)
  have hA := hid ha.bytes
  have hB := hid hb.bytes
  have HK := hid hk
  clear ha hb hk
  unfold En.val
  simp only [En.pe, peq]
  by_cases ht : t = t'
  · subst ht
    by_cases hkk : k = k'
    · subst hkk
      go_enter Try.func25, Try.ntmps25
      go_wp2_with fail
      go_ret
      refine ⟨?_, HK.out⟩
      rw [str_beq hA.out hB.out]
      simp
    · have hkf : (k == k') = false := by simpa using hkk
      go_enter Try.func25, Try.ntmps25
      go_wp2_with fail
      go_ret
      exact ⟨by simp, HK.out⟩
  · have htf : (t == t') = false := by simpa using ht
    go_enter Try.func25, Try.ntmps25
    go_wp2_with fail
    go_ret
    exact ⟨by simp, HK.out⟩

theorem bytesEqual_any (w : World) (Av : Nat → Prop) (A B : Option Addr) (m c n d : Nat) (x y : List Int) (ha : Sl w Av 1 A m (ubs x)) (hb : Sl w Av 1 B n (ubs y)) (hx : ∀ b ∈ x, 0 ≤ b ∧ b ≤ 255) (hy : ∀ b ∈ y, 0 ≤ b ∧ b ≤ 255) :
    Calls Try.prog 51 #[.slice A m c, .slice B n d] w fun e w' => e = .returned (.bool (decide (x = y))) ∧ Same w w' := by
  have hsa := str_of _ Av A m c x ha
  have hsb := str_of _ Av B n d y hb
  have hA := hid hx
  have hB := hid hy
  clear ha hb hx hy
  go_enter Try.func51, Try.ntmps51
  go_wp2_with fail
  go_ret
  refine ⟨?_, Keep.refl _ _⟩
  rw [str_beq hA.out hB.out]
  rfl

set_option maxRecDepth 100000 in
theorem equal_any (w : World) (Av : Nat → Prop) (a b : En) (ha : EnOk w Av a) (hb : EnOk w Av b) : Calls Try.prog 37 #[a.val, b.val] w fun e w' => e = .returned (.bool (peq a.pe b.pe)) ∧ Same w w' := by
  obtain ⟨t, k, A, m, c, x⟩ := a
  obtain ⟨t', k', B, n, d, y⟩ := b
  have hk := Keep.two w (.cells #[.int .i64 t, .int .i64 k, .slice A m c] 46) (.cells #[.int .i64 t', .int .i64 k', .slice B n d] 46)
  have hE := hid (bytesEqual_any _ Av A B m c n d x y (ha.body.same hk) (hb.body.same hk) ha.bytes hb.bytes)
  have HK := hid hk
  clear ha hb hk
  unfold En.val
  simp only [En.pe, peq]
  by_cases ht : t = t'
  · subst ht
    by_cases hkk : k = k'
    · subst hkk
      go_enter Try.func37, Try.ntmps37
      go_wp2_with (go_at_call 51; refine hE.out.mono ?_; rintro e w' ⟨rfl, hk'⟩)
      go_ret
      exact ⟨by simp, HK.out.then hk'⟩
    · have hkf : (k == k') = false := by simpa using hkk
      go_enter Try.func37, Try.ntmps37
      go_wp2_with fail
      go_ret
      exact ⟨by simp [hkk], HK.out⟩
  · have htf : (t == t') = false := by simpa using ht
    go_enter Try.func37, Try.ntmps37
    go_wp2_with fail
    go_ret
    exact ⟨by simp [ht], HK.out⟩

/-- an entry's rightness by its length -/
def rightE (t k : Int) (m : Nat) : Bool := decide (1 ≤ t) && decide (t ≤ 1099511627776) && decide (1 ≤ k) && decide (k ≤ 3) && decide ((m : Int) ≤ 8192)
theorem rightE_pe {w : World} {Av : Nat → Prop} {e : En} (h : EnOk w Av e) : rightE e.t e.k e.m = rightP e.pe := by
  have := h.len
  simp only [rightE, rightP, En.pe, this]
  by_cases h8 : e.m ≤ 8192
  · have : (e.m : Int) ≤ 8192 := by omega
    simp [h8, this]
    try rfl
  · have : ¬ (e.m : Int) ≤ 8192 := by omega
    simp [h8, this]
def PlainPost (w : World) (b : Bool) (e : Ending) (w' : World) : Prop := e = .returned (.bool b) ∧ Same w w'
set_option maxRecDepth 100000 in
theorem right0_any (w : World) (t k : Int) (A : Option Addr) (m c : Nat) : Calls Try.prog 31 #[.agg #[.int .i64 t, .int .i64 k, .slice A m c]] w (PlainPost w (rightE t k m)) := by
  go_enter Try.func31, Try.ntmps31
  go_wp2_with fail
  all_goals
    go_ret
    refine ⟨?_, (Keep.refl _ _).alloc _⟩
    first | (simp_all [rightE]; done) | (simp_all [rightE]; omega)
set_option maxRecDepth 100000 in
theorem valid0_any (w : World) (t k : Int) (A : Option Addr) (m c : Nat) : Calls Try.prog 38 #[.agg #[.int .i64 t, .int .i64 k, .slice A m c]] w (PlainPost w (rightE t k m)) := by
  go_enter Try.func38, Try.ntmps38
  go_wp2_with fail
  all_goals
    go_ret
    refine ⟨?_, (Keep.refl _ _).alloc _⟩
    first | (simp_all [rightE]; done) | (simp_all [rightE]; omega)
theorem right_any (w : World) (Av : Nat → Prop) (e : En) (h : EnOk w Av e) : Calls Try.prog 31 #[e.val] w (PlainPost w (rightP e.pe)) := by
  rw [← rightE_pe h]; exact right0_any w e.t e.k e.A e.m e.c
theorem valid_any (w : World) (Av : Nat → Prop) (e : En) (h : EnOk w Av e) : Calls Try.prog 38 #[e.val] w (PlainPost w (rightP e.pe)) := by
  rw [← rightE_pe h]; exact valid0_any w e.t e.k e.A e.m e.c
end Go.Proofs.Ytbellndcgagclaa

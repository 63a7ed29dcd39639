import Derived.Test.YtmkcphhgimlkgaaLeT
import Derived.Test.YtmkcphhgimlkgaaGen2
import Derived.OpenShut
namespace Go.Proofs.Ytmkcphhgimlkgaa
open Go.RowKit

/-! ## The checksum -/
def addB (s b : Int) : Int := bits BinOp.xor IntKind.u64 (IntKind.u64.wrap (bits BinOp.xor IntKind.u64 s b * 1099511628211)) (IntKind.u64.wrap (bits BinOp.xor IntKind.u64 s b * 1099511628211) / 4294967296)
theorem addB_u (s b : Int) : 0 ≤ addB s b ∧ addB s b ≤ 18446744073709551615 := by unfold addB; exact bounds_u64 (wf_bits _ _ _ _)

set_option maxHeartbeats 1000000 in
theorem addByte_any (w : World) (s b : Int) (h0 : 0 ≤ b) (h1 : b ≤ 255) : Calls Try.prog 87 #[.int .u64 s, .int .u8 b] w fun e w' => e = .returned (.int .u64 (addB s b)) ∧ w = w' := by
  go_enter Try.func87, Try.ntmps87
  go_wp2
  go_ret
  exact ⟨rfl, rfl⟩

/-- eight bytes, the lowest first -/
def addI (s n : Int) : Int := addB (addB (addB (addB (addB (addB (addB (addB s (n % 256)) (n / 256 % 256)) (n / 65536 % 256)) (n / 16777216 % 256)) (n / 4294967296 % 256)) (n / 1099511627776 % 256)) (n / 281474976710656 % 256)) (n / 72057594037927936)

set_option maxHeartbeats 1000000 in
theorem addInt_any (w : World) (s n : Int) (h0 : 0 ≤ n) (h1 : n ≤ 18446744073709551615) : Calls Try.prog 80 #[.int .u64 s, .int .u64 n] w fun e w' => e = .returned (.int .u64 (addI s n)) ∧ w = w' := by
  go_enter Try.func80, Try.ntmps80
  go_wp2
  refine wp_loop_rounds 9 ?_
  iterate 8
    rw [rounds_succ]
    go_wp2_with (go_at_call 87; refine (addByte_any _ _ _ (by omega) (by omega)).mono ?_; rintro e w' ⟨rfl, rfl⟩)
  rw [rounds_succ]
  go_wp2
  go_ret
  refine ⟨?_, rfl⟩
  simp [addI]

def sumI (s : Int) (l : List Int) : Int := l.foldl (fun s n => addI s (IntKind.u64.wrap n)) s
def sum0 (l : List Int) : Int := sumI 14695981039346656037 l
theorem u64_in (n : Int) : 0 ≤ IntKind.u64.wrap n ∧ IntKind.u64.wrap n ≤ 18446744073709551615 := bounds_u64 (wf_wrap _ _)

set_option maxHeartbeats 1000000 in
theorem sumInts_any (w : World) (Av : Nat → Prop) (A : Option Addr) (n c : Nat) (l : List Int) (hA : Sl w Av 1 A n (l.map (Value.int .i64))) (hn : n ≤ 1000000) :
    Calls Try.prog 58 #[.slice A n c] w fun e w' => e = .returned (.int .u64 (sum0 l)) ∧ w = w' := by
  have hl : l.length = n := by simpa using hA.len
  have HA := hid hA
  clear hA
  go_enter Try.func58, Try.ntmps58
  go_wp2
  go_loop [3, 8] (fun v i => ∃ k : Nat, k ≤ n ∧ i = .int .i64 k ∧ v = .int .u64 (sum0 (l.take k))) (fun _ i => n - (intOf i).toNat)
  case atStart => exact ⟨0, by omega, rfl, by simp [sum0, sumI]⟩
  case round =>
    obtain ⟨k, hk, rfl, rfl⟩ := hrel
    by_cases hkn : k < n
    · obtain ⟨x, hx⟩ := get_some (l := l) (k := k) (by omega)
      obtain ⟨bb, off, rfl, hb, _, hr⟩ := HA.out.at_ (by omega)
      have hc : w.cell? ⟨bb, off + k, none⟩ = some (.int .i64 x) := hr k _ (by simp [hx])
      have hs := hid (show sum0 (l.take (k + 1)) = addI (sum0 (l.take k)) (IntKind.u64.wrap x) by rw [take_snoc hx]; simp [sum0, sumI])
      have hu := u64_in x
      have hd := hid (fun s => addInt_any w s (IntKind.u64.wrap x) hu.1 hu.2)
      clear hx hr hu
      generalize sum0 (l.take k) = S at *
      go_wp2_with fail
      refine (hd.out S).mono ?_
      rintro e w' ⟨rfl, rfl⟩
      go_wp2
      go_round
      case rel => exact ⟨k + 1, by omega, by go_num, by rw [hs.out]⟩
      case measure => simp [intOf]; omega
    · obtain rfl : k = n := by omega
      have ht : l.take k = l := List.take_of_length_le (by omega)
      rw [ht]
      clear ht
      go_wp2
      go_ret
      exact ⟨rfl, rfl⟩

/-! ## Checksum -/
def nums (l : List St) : List Int := l.flatMap (fun s => [s.h, s.e, s.u, gv s.r])
theorem nums_snoc {l : List St} {k : Nat} {s : St} (h : l[k]? = some s) : nums (l.take (k + 1)) = nums (l.take k) ++ [s.h, s.e, s.u, gv s.r] := by
  rw [take_snoc h]; simp [nums]
theorem nums_len (l : List St) : (nums l).length = l.length * 4 := flat_len _ 4 (fun _ => rfl) l
def ckR (l : List St) : Int := sum0 (nums l)
theorem E73 : Elem Try.prog 105 2 1 8 (.int .i64 0) := ⟨Try.underlying105, by kernel_rfl, rfl, by decide⟩
theorem Own.made0 (w : World) (e : TypeId) (size n : Nat) (cs : Array Value) (h : cs.size = n * size) (hn : n ≤ maxLen) : Own (w.alloc (.cells cs e)) w.heap.size e size (.slice (some ⟨w.heap.size, 0, none⟩) 0 n) 0 [] :=
  Own.of_blk (Nat.le_refl _) (Blk.made w e cs) (Nat.zero_le _) hn h (by simp)

set_option maxHeartbeats 2000000 in
theorem checksum_any (w : World) (tb sb : Nat) (l : List St) (hT : IsTable w tb sb l) : Calls Try.prog 43 #[.pointer (some ⟨tb, 0, none⟩)] w fun e w' => e = .returned (.int .u64 (ckR l)) ∧ Same w w' := by
  have hsm := hT.small
  generalize hn : l.length = n at hsm
  have hsl := hT.sl
  rw [hn] at hsl
  have HT := hid hT
  have Hn := hid hn
  have htb := hT.top.lt
  have hsb := hT.row.lt
  have hmk := fun W => E73.make .i64 .i64 0 (4 * (n : Int)) (by omega) (by omega) (by omega) (by omega) W
  have hmz : (4 * (n : Int)).toNat = 4 * n := by omega
  clear hT hn
  go_enter Try.func43, Try.ntmps43
  go_wp2
  go_loopw [3, 19] (fun v i wr => ∃ k : Nat, ∃ B d, k ≤ n ∧ i = .int .i64 k ∧ v = .slice B (k * 4) d ∧ Own wr w.heap.size 2 1 (.slice B (k * 4) d) (k * 4) ((nums (l.take k)).map (Value.int .i64)) ∧ Same w wr) (fun _ i _ => n - (RowKit.intOf i).toNat)
  case atStart => exact ⟨0, _, _, by omega, rfl, rfl, Own.made0 w 2 1 (4 * n) _ (by simp [size_madeCells]) (by unfold maxLen; omega), (Keep.refl _ _).alloc _⟩
  case round =>
    obtain ⟨k, B, d, hk, rfl, rfl, hO, hK⟩ := hrel
    by_cases hkn : k < n
    · obtain ⟨s, hs⟩ := get_some (l := l) (k := k) (by have := Hn.out; omega)
      obtain ⟨s', hs', c0, c1, c2, c3⟩ := (HT.out.keep hK (fun f => f) (fun f => f)).at_ k (by have := Hn.out; omega)
      rw [hs] at hs'
      injection hs' with hs'
      subst hs'
      have Hs := hid hs
      have HO := hid hO
      have hz := hK.size
      clear hs hO
      obtain ⟨h, e, u, r⟩ := s
      simp only at c0 c1 c2 c3
      cases r
      · go_wp2_with (
          at_builtin
          refine E73.law (.tmp 25) (.tmp 33) (.slice B (k * 4) d) (some ⟨wr.heap.size + 1, 0, none⟩) 4 4 rfl rfl rfl rfl w.heap.size (k * 4) _ [.int .i64 h, .int .i64 e, .int .i64 u, .int .i64 0]
            (HO.out.keep (((Keep.refl (fun _ => False) wr).alloc _).alloc _) (fun _ _ _ f => f)) rfl (fun _ => ⟨_, rfl, src_new2 rfl⟩) (by intro u hu; simp at hu; rcases hu with rfl | rfl | rfl | rfl <;> rfl) (by omega) (by unfold maxLen; omega) (by simp; omega) ?_
          intro A' c' w' hown hg)
        go_roundw
        case rel =>
          refine ⟨k + 1, A', c', by omega, by go_num, by rw [Nat.succ_mul], ?_, ((hK.alloc _).alloc _).grown hg (fun g e hl => by have := HO.out.block g e; omega)⟩
          rw [nums_snoc Hs.out, Nat.succ_mul]
          simpa [gv] using hown
        case measure => simp [RowKit.intOf]; omega
      · go_wp2_with (
          at_builtin
          refine E73.law (.tmp 25) (.tmp 33) (.slice B (k * 4) d) (some ⟨wr.heap.size + 1, 0, none⟩) 4 4 rfl rfl rfl rfl w.heap.size (k * 4) _ [.int .i64 h, .int .i64 e, .int .i64 u, .int .i64 1]
            (HO.out.keep (((Keep.refl (fun _ => False) wr).alloc _).alloc _) (fun _ _ _ f => f)) rfl (fun _ => ⟨_, rfl, src_new2 rfl⟩) (by intro u hu; simp at hu; rcases hu with rfl | rfl | rfl | rfl <;> rfl) (by omega) (by unfold maxLen; omega) (by simp; omega) ?_
          intro A' c' w' hown hg)
        go_roundw
        case rel =>
          refine ⟨k + 1, A', c', by omega, by go_num, by rw [Nat.succ_mul], ?_, ((hK.alloc _).alloc _).grown hg (fun g e hl => by have := HO.out.block g e; omega)⟩
          rw [nums_snoc Hs.out, Nat.succ_mul]
          simpa [gv] using hown
        case measure => simp [RowKit.intOf]; omega
    · obtain rfl : k = n := by omega
      have ht : l.take k = l := List.take_of_length_le (by have := Hn.out; omega)
      rw [ht] at hO
      have hSl := hid (hO.sl (Av := fun _ => False) (fun _ _ f => f))
      clear ht hO
      go_wp2_with fail
      refine (sumInts_any wr _ B (k * 4) d _ hSl.out (by omega)).mono ?_
      rintro e w' ⟨rfl, rfl⟩
      go_wp2
      go_ret
      exact ⟨rfl, hK⟩
end Go.Proofs.Ytmkcphhgimlkgaa

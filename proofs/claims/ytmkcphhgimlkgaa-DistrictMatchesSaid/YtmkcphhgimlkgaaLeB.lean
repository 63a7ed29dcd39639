import Derived.Test.YtmkcphhgimlkgaaLeS
namespace Go.Proofs.Ytmkcphhgimlkgaa
open Go.RowKit

/-! ## The reference's checksum -/
theorem E80 : Elem Try.prog 124 5 1 1 (.int .u8 0) := ⟨Try.underlying124, by kernel_rfl, rfl, by decide⟩
/-- the eight bytes of n -/
def bytes8 (n : Int) : List Int := [n % 256, n / 256 % 256, n / 65536 % 256, n / 16777216 % 256, n / 4294967296 % 256, n / 1099511627776 % 256, n / 281474976710656 % 256, n / 72057594037927936 % 256]
theorem u8_one (l : List Int) : ∀ u ∈ l.map (Value.int .u8), u.oneCell' = true := by
  intro u hu; simp at hu; obtain ⟨a, _, rfl⟩ := hu; rfl

def BytesPost (w : World) (n : Int) (e : Ending) (w' : World) : Prop :=
  ∃ A c, e = .returned (.slice A 8 c) ∧ Sl w' (· < w.heap.size) 1 A 8 ((bytes8 n).map (Value.int .u8)) ∧ Same w w'
theorem div256 (n : Int) : n / 256 / 256 = n / 65536 ∧ n / 65536 / 256 = n / 16777216 ∧ n / 16777216 / 256 = n / 4294967296 ∧ n / 4294967296 / 256 = n / 1099511627776 ∧ n / 1099511627776 / 256 = n / 281474976710656 ∧ n / 281474976710656 / 256 = n / 72057594037927936 := by
  refine ⟨?_, ?_, ?_, ?_, ?_, ?_⟩ <;> omega
/-- the k-th byte and what is left of n behind k bytes -/
def left (n : Int) : Nat → Int
  | 0 => n
  | k + 1 => left n k / 256
theorem left_succ (n : Int) (k : Nat) : left n (k + 1) = left n k / 256 := rfl
theorem left_in (n : Int) (h0 : 0 ≤ n) (h1 : n ≤ 18446744073709551615) : ∀ k, 0 ≤ left n k ∧ left n k ≤ 18446744073709551615
  | 0 => by simp [left]; omega
  | k + 1 => by
    have := left_in n h0 h1 k
    rw [left_succ]; omega
def byteAt (n : Int) (k : Nat) : Int := left n k % 256
theorem bytes8_eq (n : Int) : (List.range 8).map (byteAt n) = bytes8 n := by
  obtain ⟨e1, e2, e3, e4, e5, e6⟩ := div256 n
  simp [List.range_succ, byteAt, left, bytes8, e1, e2, e3, e4, e5, e6]

set_option maxHeartbeats 1000000 in
theorem bytes_any (w : World) (n : Int) (h0 : 0 ≤ n) (h1 : n ≤ 18446744073709551615) : Calls Try.prog 59 #[.int .u64 n] w (BytesPost w n) := by
  go_enter Try.func59, Try.ntmps59
  go_wp2
  go_loopw [0, 3, 4] (fun x v i wr => ∃ k : Nat, ∃ B d, k ≤ 8 ∧ i = .int .i64 k ∧ x = .int .u64 (left n k) ∧ v = .slice B k d ∧ Own wr w.heap.size 5 1 (.slice B k d) k (((List.range k).map (byteAt n)).map (Value.int .u8)) ∧ Same w wr) (fun _ _ i _ => 8 - (RowKit.intOf i).toNat)
  case atStart => exact ⟨0, none, 0, by omega, rfl, by simp [left], rfl, by simpa using Own.nil w w.heap.size 5 1, Keep.refl _ _⟩
  case round =>
    obtain ⟨k, B, d, hk, rfl, rfl, rfl, hO, hK⟩ := hrel
    have hL := left_in n h0 h1 k
    obtain ⟨l0, l1⟩ := hL
    have hls := hid (left_succ n k)
    have hbk := hid (show byteAt n k = left n k % 256 from rfl)
    have HO := hid hO
    clear hO
    generalize left n k = x at *
    by_cases hkn : k < 8
    · go_wp2_with (
        at_builtin
        refine E80.law (.tmp 9) (.tmp 13) (.slice B k d) (some ⟨wr.heap.size, 0, none⟩) 1 1 rfl rfl rfl rfl w.heap.size k _ [.int .u8 (x % 256)] (HO.out.keep ((Keep.refl (fun _ => False) wr).alloc _) (fun _ _ _ f => f)) rfl
          (fun _ => ⟨_, rfl, src_new rfl⟩) (by intro u hu; simp at hu; subst hu; rfl) (by omega) (by unfold maxLen; omega) (by have := hK.size; simp; omega) ?_
        intro A' c' w' hown hg)
      go_roundw
      case rel =>
        refine ⟨k + 1, A', c', by omega, by go_num, by rw [hls.out], rfl, ?_, (hK.alloc _).grown hg (fun g e hl => by have := HO.out.block g e; omega)⟩
        rw [List.range_succ, List.map_append, List.map_append]
        simp only [List.map_cons, List.map_nil]
        rw [hbk.out]
        exact hown
      case measure => simp [RowKit.intOf]; omega
    · obtain rfl : k = 8 := by omega
      go_wp2
      go_ret
      have := HO.out.slN
      rw [bytes8_eq] at this
      exact ⟨B, d, rfl, this, hK⟩
end Go.Proofs.Ytmkcphhgimlkgaa

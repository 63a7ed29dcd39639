import Derived.Test.YtmkcphhgimlkgaaLeP
namespace Go.Proofs.Ytmkcphhgimlkgaa
open Go.RowKit

def bytesL (l : List Int) : List Int := l.flatMap (fun x => bytes8 (IntKind.u64.wrap x))
theorem bytesL_snoc {l : List Int} {k : Nat} {a : Int} (h : l[k]? = some a) : bytesL (l.take (k + 1)) = bytesL (l.take k) ++ bytes8 (IntKind.u64.wrap a) := by
  rw [take_snoc h]; simp [bytesL]
theorem bytesL_len (l : List Int) : (bytesL l).length = l.length * 8 := flat_len _ 8 (fun _ => rfl) l
theorem bytes8_in (n x : Int) (h : x ∈ bytes8 n) : 0 ≤ x ∧ x ≤ 255 := by
  simp only [bytes8, List.mem_cons, List.not_mem_nil, or_false] at h
  rcases h with rfl | rfl | rfl | rfl | rfl | rfl | rfl | rfl <;> omega
theorem bytesL_in (l : List Int) : ∀ x ∈ bytesL l, 0 ≤ x ∧ x ≤ 255 := by
  intro x hx
  simp only [bytesL, List.mem_flatMap] at hx
  obtain ⟨a, _, h⟩ := hx
  exact bytes8_in _ _ h
theorem addI_eq (s n : Int) (h0 : 0 ≤ n) (h1 : n ≤ 18446744073709551615) : addI s n = mores s (bytes8 n) := by
  have e : n / 72057594037927936 % 256 = n / 72057594037927936 := by omega
  unfold addI mores bytes8
  rw [e]
  rfl
theorem mores_bytesL : ∀ (l : List Int) (s : Int), mores s (bytesL l) = sumI s l
  | [], s => by simp [bytesL, mores, sumI]
  | a :: l, s => by
    have hu := u64_in a
    have e : bytesL (a :: l) = bytes8 (IntKind.u64.wrap a) ++ bytesL l := by simp only [bytesL, List.flatMap_cons]
    have e2 : mores s (bytes8 (IntKind.u64.wrap a) ++ bytesL l) = mores (mores s (bytes8 (IntKind.u64.wrap a))) (bytesL l) := by simp only [mores, List.foldl_append]
    rw [e, e2, ← addI_eq _ _ hu.1 hu.2, mores_bytesL l]
    simp only [sumI, List.foldl_cons]

set_option maxHeartbeats 2000000 in
theorem words_any (w : World) (Av : Nat → Prop) (A : Option Addr) (n c : Nat) (l : List Int) (hA : Sl w Av 1 A n (l.map (Value.int .i64))) (hn : n ≤ 1000) :
    Calls Try.prog 44 #[.slice A n c] w fun e w' => e = .returned (.int .u64 (sum0 l)) ∧ Same w w' := by
  have hl : l.length = n := by simpa using hA.len
  have HA := hid hA
  clear hA
  go_enter Try.func44, Try.ntmps44
  go_wp2
  go_loopw [3, 4] (fun v i wr => ∃ k : Nat, ∃ B d, k ≤ n ∧ i = .int .i64 k ∧ v = .slice B (k * 8) d ∧ Own wr w.heap.size 5 1 (.slice B (k * 8) d) (k * 8) ((bytesL (l.take k)).map (Value.int .u8)) ∧ Same w wr) (fun _ i _ => n - (RowKit.intOf i).toNat)
  case atStart => exact ⟨0, none, 0, by omega, rfl, rfl, by simpa [bytesL] using Own.nil w w.heap.size 5 1, Keep.refl _ _⟩
  case round =>
    obtain ⟨k, B, d, hk, rfl, rfl, hO, hK⟩ := hrel
    by_cases hkn : k < n
    · obtain ⟨x, hx⟩ := get_some (l := l) (k := k) (by omega)
      obtain ⟨bb, off, rfl, hb, _, hr⟩ := HA.out.at_ (by omega)
      have hc : wr.cell? ⟨bb, off + k, none⟩ = some (.int .i64 x) := (hK.cell (p := ⟨bb, off + k, none⟩) hb (fun f => f)).trans (hr k _ (by simp [hx]))
      have Hx := hid hx
      have HO := hid hO
      have hu := u64_in x
      have HBy := hid (bytes_any wr (IntKind.u64.wrap x) hu.1 hu.2)
      have hbl := hid (show (bytes8 (IntKind.u64.wrap x)).length = 8 from rfl)
      clear hx hr hO
      go_wp2_with fail
      refine HBy.out.mono ?_
      rintro e w1 ⟨A1, c1, rfl, hS1, hk1⟩
      have hO1 := hid (HO.out.keep hk1 (fun _ _ _ f => f))
      have hsrc := hid (hS1.src (Keep.refl (fun _ => False) w1))
      have hK1 := hid (hK.then hk1)
      have hz : w.heap.size ≤ w1.heap.size := hK1.out.size
      clear hS1 hk1
      go_wp2_with (
        at_builtin
        refine E80.law (.tmp 11) (.tmp 17) (.slice B (k * 8) d) A1 8 c1 rfl rfl rfl rfl w.heap.size (k * 8) _ ((bytes8 (IntKind.u64.wrap x)).map (Value.int .u8)) hO1.out rfl hsrc.out (u8_one _) (by omega) (by unfold maxLen; omega) hz ?_
        intro A' c' w' hown hg)
      go_roundw
      case rel =>
        refine ⟨k + 1, A', c', by omega, by go_num, by rw [Nat.succ_mul], ?_, hK1.out.grown hg (fun g e hl => by have := hO1.out.block g e; omega)⟩
        rw [bytesL_snoc Hx.out, Nat.succ_mul, List.map_append]
        exact hown
      case measure => simp [RowKit.intOf]; omega
    · obtain rfl : k = n := by omega
      have ht : l.take k = l := List.take_of_length_le (by omega)
      rw [ht] at hO
      have hSl := hid (hO.sl (Av := fun _ => False) (fun _ _ f => f))
      have hm := hid (of_any wr _ B (k * 8) d _ hSl.out (by omega) (bytesL_in l))
      have he := hid (mores_bytesL l 14695981039346656037)
      clear ht hO
      go_wp2_with fail
      refine hm.out.mono ?_
      rintro e w' ⟨rfl, hk'⟩
      go_wp2
      go_ret
      exact ⟨by rw [sum0, ← he.out]; rfl, hK.then hk'⟩

set_option maxHeartbeats 2000000 in
theorem seal_any (w : World) (Av : Nat → Prop) (A : Option Addr) (c : Nat) (l : List St) (hT : Th w Av A l) (hs : l.length ≤ 64) : Calls Try.prog 28 #[.slice A l.length c] w fun e w' => e = .returned (.int .u64 (ckR l)) ∧ Same w w' := by
  have HT : Hid (Th w Av A l) := hT
  clear hT
  generalize hn : l.length = n at hs ⊢
  have Hn := hid hn
  clear hn
  go_enter Try.func28, Try.ntmps28
  go_wp2
  go_loopw [3, 8] (fun v i wr => ∃ k : Nat, ∃ B d, k ≤ n ∧ i = .int .i64 k ∧ v = .slice B (k * 4) d ∧ Own wr w.heap.size 2 1 (.slice B (k * 4) d) (k * 4) ((nums (l.take k)).map (Value.int .i64)) ∧ Same w wr) (fun _ i _ => n - (RowKit.intOf i).toNat)
  case atStart => exact ⟨0, none, 0, by omega, rfl, rfl, by simpa [nums] using Own.nil w w.heap.size 2 1, Keep.refl _ _⟩
  case round =>
    obtain ⟨k, B, d, hk, rfl, rfl, hO, hK⟩ := hrel
    by_cases hkn : k < n
    · obtain ⟨s, hs'⟩ := get_some (l := l) (k := k) (by have := Hn.out; omega)
      have hT2 : Th wr Av A l := HT.out.same hK
      obtain ⟨bb, off, rfl, hb, c0, c1, c2, c3⟩ := hT2.at4 hs'
      have Hs := hid hs'
      have HO := hid hO
      have hz := hK.size
      clear hs' hO hT2
      obtain ⟨h, e, u, r⟩ := s
      simp only at c0 c1 c2 c3
      have hgv := hid (show gv r = gv r from rfl)
      go_wp2_with (
        at_builtin
        refine E73.law (.tmp 12) (.tmp 21) (.slice B (k * 4) d) (some ⟨wr.heap.size + 1, 0, none⟩) 4 4 rfl rfl rfl rfl w.heap.size (k * 4) _ [.int .i64 h, .int .i64 e, .int .i64 u, .int .i64 (gv r)]
          (HO.out.keep (((Keep.refl (fun _ => False) wr).alloc _).alloc _) (fun _ _ _ f => f)) rfl (fun _ => ⟨_, rfl, src_new2 rfl⟩) (by intro u hu; simp at hu; rcases hu with rfl | rfl | rfl | rfl <;> rfl) (by omega) (by unfold maxLen; omega) (by simp; omega) ?_
        intro A' c' w' hown hg)
      go_roundw
      case rel =>
        refine ⟨k + 1, A', c', by omega, by go_num, by rw [Nat.succ_mul], ?_, ((hK.alloc _).alloc _).grown hg (fun g e hl => by have := HO.out.block g e; omega)⟩
        rw [nums_snoc Hs.out, Nat.succ_mul, List.map_append]
        exact hown
      case measure => simp [RowKit.intOf]; omega
    · obtain rfl : k = n := by omega
      have ht : l.take k = l := List.take_of_length_le (by have := Hn.out; omega)
      rw [ht] at hO
      have hSl := hid (hO.sl (Av := fun _ => False) (fun _ _ f => f))
      have hm := hid (words_any wr _ B (k * 4) d _ hSl.out (by omega))
      clear ht hO
      go_wp2_with fail
      refine hm.out.mono ?_
      rintro e w' ⟨rfl, hk'⟩
      go_wp2
      go_ret
      exact ⟨rfl, hK.then hk'⟩
end Go.Proofs.Ytmkcphhgimlkgaa

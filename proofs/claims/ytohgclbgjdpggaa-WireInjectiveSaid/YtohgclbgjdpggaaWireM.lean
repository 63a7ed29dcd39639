import Derived.Test.YtohgclbgjdpggaaWireL
import Derived.Laws.Strings
namespace Go.Proofs.Ytohgclbgjdpggaa
open Go.RowKit

def sameT (s t : Tg) : Bool := decide (s.k = t.k) && decide (s.n = t.n) && (s.b == t.b) && decide (s.d = t.d) && decide (s.l = t.l)
theorem sameT_iff (s t : Tg) : sameT s t = true ↔ s = t := by
  obtain ⟨a, b, c, d, e⟩ := s
  obtain ⟨a', b', c', d', e'⟩ := t
  simp [sameT, and_assoc]
theorem sameT_self (s : Tg) : sameT s s = true := (sameT_iff s s).2 rfl

section
variable (w : World) (k k' n n' : Int) (b b' : Bool) (s s' : ByteArray) (A A' : Option Addr) (m c m' c' : Nat)
set_option maxHeartbeats 2000000 in
theorem same_no (h : ¬ k = k' ∨ (k = k' ∧ ¬ n = n') ∨ (k = k' ∧ n = n' ∧ ¬ b = b') ∨ (k = k' ∧ n = n' ∧ b = b' ∧ ¬ s = s') ∨ (k = k' ∧ n = n' ∧ b = b' ∧ s = s' ∧ ¬ m = m')) :
    Calls Try.prog 11 #[.agg #[.int .i64 k, .int .i64 n, .bool b, .string s, .slice A m c], .agg #[.int .i64 k', .int .i64 n', .bool b', .string s', .slice A' m' c']] w fun e w' => e = .returned (.bool false) ∧ Same w w' := by
  rcases h with h | ⟨rfl, h⟩ | ⟨rfl, rfl, h⟩ | ⟨rfl, rfl, rfl, h⟩ | ⟨rfl, rfl, rfl, rfl, h⟩
  · have h1 : (k != k') = true := by simpa using h
    clear h
    go_enter Try.func11, Try.ntmps11
    go_wp2
    go_ret
    exact ⟨rfl, ((Keep.refl _ w).alloc _).alloc _⟩
  · have h1 : (n != n') = true := by simpa using h
    clear h
    go_enter Try.func11, Try.ntmps11
    go_wp2
    go_ret
    exact ⟨rfl, ((Keep.refl _ w).alloc _).alloc _⟩
  · go_enter Try.func11, Try.ntmps11
    go_wp2
    go_ret
    exact ⟨rfl, ((Keep.refl _ w).alloc _).alloc _⟩
  · have h1 : ¬ s.toList = s'.toList := by
      rw [ByteArray.toList_eq, ByteArray.toList_eq]
      intro e
      apply h
      cases s; cases s'
      simp only at e
      congr 1
      exact Array.toList_inj.1 e
    clear h
    go_enter Try.func11, Try.ntmps11
    go_wp2
    go_ret
    exact ⟨rfl, ((Keep.refl _ w).alloc _).alloc _⟩
  · have h1 : ((m : Int) != (m' : Int)) = true := by simp; omega
    clear h
    go_enter Try.func11, Try.ntmps11
    go_wp2
    go_ret
    exact ⟨rfl, ((Keep.refl _ w).alloc _).alloc _⟩
set_option maxHeartbeats 2000000 in
theorem same_l (Av Av' : Nat → Prop) (l l' : List Int) (h : Sl w Av 1 A m (l.map (.int .i64))) (h' : Sl w Av' 1 A' m (l'.map (.int .i64))) (hm : m ≤ 1000000) :
    Calls Try.prog 11 #[.agg #[.int .i64 k, .int .i64 n, .bool b, .string s, .slice A m c], .agg #[.int .i64 k, .int .i64 n, .bool b, .string s, .slice A' m c']] w fun e w' => e = .returned (.bool (decide (l = l'))) ∧ Same w w' := by
  have hl : l.length = m := by simpa using h.len
  have hl' : l'.length = m := by simpa using h'.len
  have hk : Same w ((w.alloc (.cells #[.int .i64 k, .int .i64 n, .bool b, .string s, .slice A m c] 33)).alloc (.cells #[.int .i64 k, .int .i64 n, .bool b, .string s, .slice A' m c'] 33)) := ((Keep.refl _ w).alloc _).alloc _
  have HB1 := hid ((Blk.made w 33 #[.int .i64 k, .int .i64 n, .bool b, .string s, .slice A m c]).alloc (.cells #[.int .i64 k, .int .i64 n, .bool b, .string s, .slice A' m c'] 33))
  have hb2 := Blk.made (w.alloc (.cells #[.int .i64 k, .int .i64 n, .bool b, .string s, .slice A m c] 33)) 33 #[.int .i64 k, .int .i64 n, .bool b, .string s, .slice A' m c']
  rw [World.size_alloc] at hb2
  have HB2 := hid hb2
  have H := hid h
  have H' := hid h'
  have HK := hid hk
  have Hl := hid hl
  have Hl' := hid hl'
  clear h h' hk hl hl' hb2
  obtain ⟨dd, hdd⟩ : ∃ dd, decide (l = l') = dd := ⟨_, rfl⟩
  rw [hdd]
  have HD := hid hdd.symm
  clear hdd
  go_enter Try.func11, Try.ntmps11
  go_wp2
  generalize hW2 : (w.alloc (.cells #[.int .i64 k, .int .i64 n, .bool b, .string s, .slice A m c] 33)).alloc (.cells #[.int .i64 k, .int .i64 n, .bool b, .string s, .slice A' m c'] 33) = w2 at *
  clear hW2
  go_loopw [5] (fun i wr => ∃ j : Nat, j ≤ m ∧ i = .int .i64 j ∧ l.take j = l'.take j ∧ Same w2 wr) (fun i _ => m - (RowKit.intOf i).toNat)
  case atStart => exact ⟨0, by omega, rfl, by simp, Keep.refl _ _⟩
  case round =>
    obtain ⟨j, hjm, rfl, heq, hKr⟩ := hrel
    have hb1 := HB1.out.keep hKr (fun f => f)
    have hb2 := HB2.out.keep hKr (fun f => f)
    have y0 : wr.cell? ⟨w.heap.size, 4, none⟩ = some (.slice A m c) := hb1.at_ 4
    have y1 : wr.cell? ⟨w.heap.size + 1, 4, none⟩ = some (.slice A' m c') := hb2.at_ 4
    have z1 := hb2.lt
    have HE := hid heq
    have HKr := hid hKr
    by_cases hlt : j < m
    · obtain ⟨x, hx⟩ := get_some (l := l) (k := j) (by have := Hl.out; omega)
      obtain ⟨x', hx'⟩ := get_some (l := l') (k := j) (by have := Hl'.out; omega)
      obtain ⟨bb, off, rfl, hb, _, hr⟩ := H.out.at_ (by omega)
      obtain ⟨bb', off', rfl, hb', _, hr'⟩ := H'.out.at_ (by omega)
      have q0 : wr.cell? ⟨bb, off + j, none⟩ = some (.int .i64 x) := ((HK.out.then hKr).cell (p := ⟨bb, off + j, none⟩) hb (fun f => f)).trans (hr j _ (by simp [hx]))
      have q1 : wr.cell? ⟨bb', off' + j, none⟩ = some (.int .i64 x') := ((HK.out.then hKr).cell (p := ⟨bb', off' + j, none⟩) hb' (fun f => f)).trans (hr' j _ (by simp [hx']))
      have HX := hid hx
      have HX' := hid hx'
      have hji : (0 : Int) ≤ j := by omega
      have hji2 : (j : Int) < m := by omega
      clear hx hx' hr hr' hb1 hb2 heq hKr
      by_cases hne : x = x'
      · subst hne
        go_wp2
        go_quiet (fail)
        go_wp2
        go_roundw
        case rel => exact ⟨j + 1, by omega, by go_num, by rw [take_snoc HX.out, take_snoc HX'.out, HE.out], HKr.out.drewN _⟩
        case measure => simp [RowKit.intOf]; omega
      · have h1 : (x != x') = true := by simpa using hne
        have hll : decide (l = l') = false := by
          rw [decide_eq_false_iff_not]
          rintro rfl
          have a := HX.out
          rw [HX'.out] at a
          injection a with a
          exact hne a.symm
        have HLL := hid hll
        clear hne hll
        go_wp2
        go_quiet (fail)
        go_wp2
        go_ret
        exact ⟨by rw [HD.out, HLL.out]; rfl, HK.out.then (HKr.out.drewN _)⟩
    · have hll : l = l' := by
        have e1 : l.take j = l := List.take_of_length_le (by have := Hl.out; omega)
        have e2 : l'.take j = l' := List.take_of_length_le (by have := Hl'.out; omega)
        rw [← e1, ← e2]; exact heq
      have hd : decide (l = l') = true := by simpa using hll
      have HLL := hid hd
      clear hb1 hb2 heq hKr hll hd
      go_wp2
      go_ret
      exact ⟨by rw [HD.out, HLL.out]; rfl, HK.out.then HKr.out⟩
end
theorem same_any (w : World) (Av Av' : Nat → Prop) (x y : Tm) (hx : TmOk w Av x) (hy : TmOk w Av' y) (hm : x.m ≤ 1000000) :
    Calls Try.prog 11 #[.agg x.cells.toArray, .agg y.cells.toArray] w fun e w' => e = .returned (.bool (sameT x.pt y.pt)) ∧ Same w w' := by
  obtain ⟨k, n, b, s, A, m, c, l⟩ := x
  obtain ⟨k', n', b', s', A', m', c', l'⟩ := y
  have hlx := hx.len
  have hly := hy.len
  simp only at hlx hly hm
  simp only [Tm.cells, Tm.pt]
  by_cases h : ¬ k = k' ∨ (k = k' ∧ ¬ n = n') ∨ (k = k' ∧ n = n' ∧ ¬ b = b') ∨ (k = k' ∧ n = n' ∧ b = b' ∧ ¬ s = s') ∨ (k = k' ∧ n = n' ∧ b = b' ∧ s = s' ∧ ¬ m = m')
  · have hf : sameT ⟨k, n, b, s.data.toList, l⟩ ⟨k', n', b', s'.data.toList, l'⟩ = false := by
      rw [Bool.eq_false_iff]
      intro ht
      rw [sameT_iff] at ht
      simp only [Tg.mk.injEq] at ht
      obtain ⟨rfl, rfl, rfl, hs, rfl⟩ := ht
      have hss : s = s' := by
        cases s; cases s'
        simp only at hs
        congr 1
        exact Array.toList_inj.1 hs
      have hmm : m = m' := by omega
      subst hss hmm
      simp at h
    rw [hf]
    exact same_no w k k' n n' b b' s s' A A' m c m' c' h
  · obtain ⟨rfl, rfl, rfl, rfl, rfl⟩ : k = k' ∧ n = n' ∧ b = b' ∧ s = s' ∧ m = m' := by
      by_cases h1 : k = k' <;> by_cases h2 : n = n' <;> by_cases h3 : b = b' <;> by_cases h4 : s = s' <;> by_cases h5 : m = m' <;> simp_all
    have hf : sameT ⟨k, n, b, s.data.toList, l⟩ ⟨k, n, b, s.data.toList, l'⟩ = decide (l = l') := by simp [sameT]
    rw [hf]
    exact same_l w k n b s A A' m c c' Av Av' l l' hx.sl hy.sl hm
end Go.Proofs.Ytohgclbgjdpggaa

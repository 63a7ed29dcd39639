import Derived.Test.YtffodheoamlhjaaRNew
import Derived.Deep.DeepMust
namespace Go.Proofs.Ytffodheoamlhjaa
open Go.RowKit

def acFlat (ops : List Ac) : List Value := ops.flatMap Ac.cells
theorem acFlat_get (l : List Ac) (i j : Nat) (hj : j < 6) : (acFlat l)[i * 6 + j]? = (l[i]?).bind (fun s => s.cells[j]?) := flat_get Ac.cells 6 (fun _ => rfl) l i j hj

/-- What 'played' leaves. -/
def PlPost (w : World) (l0 : List St) (ops : List Ac) (e : Ending) (w' : World) : Prop :=
  (∃ tb sb A c, e = .returned (.tuple #[.pointer (some ⟨tb, 0, none⟩), .slice A (ops.foldl doR l0).length c, .bool true]) ∧ w.heap.size ≤ tb ∧ w.heap.size ≤ sb ∧
    IsTable w' tb sb (ops.foldl doR l0) ∧ Th w' (fun g => g = sb ∨ g = tb) A (ops.foldl doR l0) ∧ Same w w') ∨
  (∃ A c, e = .returned (.tuple #[.pointer none, .slice A 0 c, .bool true]) ∧ Same w w')

theorem E24 : Elem Try.prog 24 3 1 8 (.int .i64 0) := ⟨Try.underlying24, by kernel_rfl, rfl, by decide⟩
theorem ints_one (hs : List Int) : ∀ u ∈ hs.map (Value.int .i64), u.oneCell' = true := by
  intro u hu; simp at hu; obtain ⟨a, _, rfl⟩ := hu; rfl
/-- an empty literal of the call's own -/
theorem Own.lit0 (w : World) (e : TypeId) (size : Nat) : Own (w.alloc (.cells #[] e)) w.heap.size e size (.slice (some ⟨w.heap.size, 0, none⟩) 0 0) 0 [] :=
  Own.of_blk (Nat.le_refl _) (Blk.made w e #[]) (Nat.le_refl _) (by simp) (by simp) (by simp)

section
variable (w : World) (A : Option Addr) (n c : Nat) (hs : List Int) (len : Int) (hA : Sl w (fun _ => False) 1 A n (hs.map (Value.int .i64))) (B : Option Addr) (m d : Nat) (ops : List Ac) (hB : Sl w (fun _ => False) 6 B m (acFlat ops))

set_option maxHeartbeats 1000000 in
theorem played_big (h : 80 < n ∨ 60 < m) : Calls Try.prog 12 #[.slice A n c, .int .i64 len, .slice B m d] w (PlPost w (hs.map (mkSt len)) ops) := by
  by_cases h1 : 80 < n
  all_goals
    go_enter Try.func12, Try.ntmps12
    go_wp2
    go_ret3
    exact .inr ⟨none, 0, rfl, Keep.refl _ _⟩

include hA hB in
set_option maxHeartbeats 2000000 in
theorem played_ok (hn : n ≤ 80) (hm : m ≤ 60) (h1 : 1 ≤ n) (h2 : n ≤ 64) (h3 : vL len = true) : Calls Try.prog 12 #[.slice A n c, .int .i64 len, .slice B m d] w (PlPost w (hs.map (mkSt len)) ops) := by
  have hln : hs.length = n := by simpa using hA.len
  have hsrc := hid (hA.src ((Keep.refl _ w).alloc (.cells #[] 3)))
  have hl1 := hid hA.len
  have HA := hid hA
  have HB := hid hB
  have hml : ops.length = m := by have := hB.len; rw [acFlat, flat_len Ac.cells 6 (fun _ => rfl)] at this; omega
  have h3' := hid h3
  clear hA hB h3
  go_enter Try.func12, Try.ntmps12
  go_wp2_with (
    at_builtin
    refine E24.law (.tmp 26) (.tmp 27) (.slice (some ⟨w.heap.size, 0, none⟩) 0 0) A n c rfl rfl rfl rfl w.heap.size 0 [] (hs.map (Value.int .i64)) (Own.lit0 w 3 1) hl1.out hsrc.out (ints_one hs) (by omega) (by unfold maxLen; omega) (by simp) ?_
    intro A' c' w1 hown hg
    simp only [Nat.zero_add, List.nil_append] at hown
    have hown := hid hown
    have hk1 : Same w w1 := ((Keep.refl (fun _ => False) w).alloc (.cells #[] 3)).app (Own.lit0 w 3 1) hg (fun g h1 h2 => by omega)
    clear hg)
  refine (new_any w1 A' n c' hs len (fun _ => False) (hown.out.sl (fun _ _ f => f)) h1 h2 h3'.out).mono ?_
  rintro e w2 (⟨hv, tb, sb, rfl, hb1, hb2, hT, hk⟩ | ⟨hv, rfl, hk⟩)
  · have hk2 : Same w w2 := hk1.then hk
    have HT := hid hT
    have Hv := hid hv
    have hsz := hk1.size
    clear hT hv hk
    go_wp2_with fail
    refine (rnew_any w2 A n c hs len _ (HA.out.same hk2) h1 h2 h3'.out).mono ?_
    rintro e w3 (⟨_, A2, c2, rfl, hTh, hk'⟩ | ⟨hv', _⟩)
    · have hk3 : Same w w3 := hk2.then hk'
      have HT3 := hid (HT.out.keep hk' (fun f => f) (fun f => f))
      have htb := HT.out.top.lt
      have hsb := HT.out.row.lt
      have HTh := hid (hTh.wide (Av' := fun g => g = sb ∨ g = tb) (fun i _ h => by rcases h with h | h <;> omega))
      have hl0 : hs.length = (hs.map (mkSt len)).length := by simp
      clear hTh hk'
      go_wp2
      go_loopw [11, 13, 55] (fun x ok i wr => ∃ k : Nat, ∃ X cx, k ≤ m ∧ i = .int .i64 k ∧ ok = .bool true ∧ x = .slice X ((ops.take k).foldl doR (hs.map (mkSt len))).length cx ∧
        IsTable wr tb sb ((ops.take k).foldl doR (hs.map (mkSt len))) ∧ Th wr (fun g => g = sb ∨ g = tb) X ((ops.take k).foldl doR (hs.map (mkSt len))) ∧ Same w wr) (fun _ _ i _ => m - (intOf i).toNat)
      case atStart => exact ⟨0, A2, c2, by omega, rfl, rfl, by simp [hln], HT3.out, HTh.out, hk3⟩
      case round =>
        obtain ⟨k, X, cx, hkm, rfl, rfl, rfl, hTr, hHr, hKr⟩ := hrel
        by_cases hlt : k < m
        · obtain ⟨a, ha⟩ : ∃ a, ops[k]? = some a := get_some (by omega)
          obtain ⟨b, off, rfl, hb, _, hr⟩ := HB.out.at_ (by omega)
          have hcell : ∀ j u, j < 6 → a.cells[j]? = some u → wr.cell? ⟨b, off + (k * 6 + j), none⟩ = some u := fun j u hj hu =>
            (hKr.cell (p := ⟨b, off + (k * 6 + j), none⟩) hb (fun f => f)).trans (hr (k * 6 + j) u (by rw [acFlat_get ops k j hj, ha]; exact hu))
          have q0 : wr.cell? ⟨b, off + k * 6, none⟩ = some (.int .i64 a.k) := hcell 0 _ (by omega) rfl
          have q1 : wr.cell? ⟨b, off + k * 6 + 1, none⟩ = some (.int .i64 a.t) := hcell 1 _ (by omega) rfl
          have q2 : wr.cell? ⟨b, off + k * 6 + 2, none⟩ = some (.int .i64 a.w) := hcell 2 _ (by omega) rfl
          have q3 : wr.cell? ⟨b, off + k * 6 + 3, none⟩ = some (.int .i64 a.e) := hcell 3 _ (by omega) rfl
          have q4 : wr.cell? ⟨b, off + k * 6 + 4, none⟩ = some (.int .i64 a.n) := hcell 4 _ (by omega) rfl
          have q5 : wr.cell? ⟨b, off + k * 6 + 5, none⟩ = some (.int .i64 a.l) := hcell 5 _ (by omega) rfl
          have hL : (ops.take (k + 1)).foldl doR (hs.map (mkSt len)) = doR ((ops.take k).foldl doR (hs.map (mkSt len))) a := by rw [take_snoc ha]; simp
          generalize (ops.take k).foldl doR (hs.map (mkSt len)) = L at *
          have HL := hid hL
          have hka : Same wr (wr.alloc (.cells a.cells.toArray 47)) := (Keep.refl _ _).alloc _
          have HD := hid (do_any _ tb sb L (hTr.keep hka (fun f => f) (fun f => f)) X cx (hHr.same hka) a)
          have hKa := hid (hKr.then hka)
          clear ha hr hcell hL hTr hHr hKr hka
          go_wp2_with fail
          refine HD.out.mono ?_
          rintro e w4 ⟨X', cx', rfl, hT4, hH4, hk4⟩
          have H4 := hid hT4
          have HH4 := hid hH4
          have HK4 := hid (hKa.out.trans hk4 (fun i hi h => by omega))
          clear hT4 hH4 hk4
          go_wp2
          go_roundw
          case rel => exact ⟨k + 1, X', cx', by omega, by go_num, rfl, by rw [HL.out], by rw [HL.out]; exact H4.out, by rw [HL.out]; exact HH4.out, HK4.out⟩
          case measure => simp [intOf]; omega
        · obtain rfl : k = m := by omega
          have e1 : ops.take k = ops := List.take_of_length_le (by omega)
          rw [e1] at hTr hHr ⊢
          have H4 := hid hTr
          have HH4 := hid hHr
          clear hTr hHr
          go_wp2
          go_ret3
          exact .inl ⟨tb, sb, X, cx, rfl, by omega, by omega, H4.out, HH4.out, hKr⟩
    · exact absurd Hv.out (by simp [hv'])
  · have hk2 : Same w w2 := hk1.then hk
    have Hv := hid hv
    clear hv hk
    go_wp2_with fail
    refine (rnew_any w2 A n c hs len _ (HA.out.same hk2) h1 h2 h3'.out).mono ?_
    rintro e w3 (⟨hv', _⟩ | ⟨_, rfl, hk'⟩)
    · exact absurd Hv.out (by simp [hv'])
    · go_wp2
      go_ret3
      exact .inr ⟨none, 0, rfl, hk2.then hk'⟩
end

theorem new_bad (w : World) (A : Option Addr) (n c : Nat) (len : Int) (h : n < 1 ∨ 64 < n ∨ vL len = false) :
    Calls Try.prog 15 #[.slice A n c, .int .i64 len] w fun e w' => e = .returned (.tuple #[.pointer none, .int .i64 1]) ∧ w = w' := by
  have hc : n < 1 ∨ (1 ≤ n ∧ 64 < n) ∨ (1 ≤ n ∧ n ≤ 64 ∧ vL len = false) := by
    rcases h with h | h | h
    · exact .inl h
    · exact .inr (.inl ⟨by omega, h⟩)
    · by_cases h1 : n < 1
      · exact .inl h1
      · by_cases h2 : 64 < n
        · exact .inr (.inl ⟨by omega, h2⟩)
        · exact .inr (.inr ⟨by omega, by omega, h⟩)
  clear h
  rcases hc with h | ⟨h0, h⟩ | ⟨h0, h1, h⟩
  all_goals
    go_enter Try.func15, Try.ntmps15
    go_wp2_with (go_at_call 24; refine (vL_any _ _).mono ?_; rintro e w' ⟨rfl, rfl⟩)
    go_ret2
    exact ⟨rfl, rfl⟩
theorem rnew_bad (w : World) (A : Option Addr) (n c : Nat) (len : Int) (h : n < 1 ∨ 64 < n ∨ vL len = false) :
    Calls Try.prog 22 #[.slice A n c, .int .i64 len] w fun e w' => e = .returned (.tuple #[.slice none 0 0, .int .i64 1]) ∧ w = w' := by
  have hc : n < 1 ∨ (1 ≤ n ∧ 64 < n) ∨ (1 ≤ n ∧ n ≤ 64 ∧ vL len = false) := by
    rcases h with h | h | h
    · exact .inl h
    · exact .inr (.inl ⟨by omega, h⟩)
    · by_cases h1 : n < 1
      · exact .inl h1
      · by_cases h2 : 64 < n
        · exact .inr (.inl ⟨by omega, h2⟩)
        · exact .inr (.inr ⟨by omega, by omega, h⟩)
  clear h
  rcases hc with h | ⟨h0, h⟩ | ⟨h0, h1, h⟩
  all_goals
    go_enter Try.func22, Try.ntmps22
    go_wp2_with (go_at_call 30; refine (rL_any _ _).mono ?_; rintro e w' ⟨rfl, rfl⟩)
    go_ret2
    exact ⟨rfl, rfl⟩

section
variable (w : World) (A : Option Addr) (n c : Nat) (hs : List Int) (len : Int) (hA : Sl w (fun _ => False) 1 A n (hs.map (Value.int .i64))) (B : Option Addr) (m d : Nat) (ops : List Ac) (hB : Sl w (fun _ => False) 6 B m (acFlat ops))
include hA
set_option maxHeartbeats 1000000 in
theorem played_bad (hn : n ≤ 80) (hm : m ≤ 60) (h : n < 1 ∨ 64 < n ∨ vL len = false) : Calls Try.prog 12 #[.slice A n c, .int .i64 len, .slice B m d] w (PlPost w (hs.map (mkSt len)) ops) := by
  have hln : hs.length = n := by simpa using hA.len
  have hsrc := hid (hA.src ((Keep.refl _ w).alloc (.cells #[] 3)))
  have hl1 := hid hA.len
  have N1 := hid (fun W A' c' => new_bad W A' n c' len h)
  have N2 := hid (fun W => rnew_bad W A n c len h)
  clear hA h
  go_enter Try.func12, Try.ntmps12
  go_wp2_with (
    at_builtin
    refine E24.law (.tmp 26) (.tmp 27) (.slice (some ⟨w.heap.size, 0, none⟩) 0 0) A n c rfl rfl rfl rfl w.heap.size 0 [] (hs.map (Value.int .i64)) (Own.lit0 w 3 1) hl1.out hsrc.out (ints_one hs) (by omega) (by unfold maxLen; omega) (by simp) ?_
    intro A' c' w1 hown hg
    have hk1 : Same w w1 := ((Keep.refl (fun _ => False) w).alloc (.cells #[] 3)).app (Own.lit0 w 3 1) hg (fun g h1 h2 => by omega)
    clear hg hown)
  refine (N1.out _ _ _).mono ?_
  rintro e w2 ⟨rfl, rfl⟩
  go_wp2_with fail
  refine (N2.out _).mono ?_
  rintro e w3 ⟨rfl, rfl⟩
  go_wp2
  go_ret3
  exact .inr ⟨none, 0, rfl, hk1⟩
include hB
theorem played_any : Calls Try.prog 12 #[.slice A n c, .int .i64 len, .slice B m d] w (PlPost w (hs.map (mkSt len)) ops) := by
  by_cases h : 80 < n ∨ 60 < m
  · exact played_big w A n c hs len B m d ops h
  · by_cases h' : n < 1 ∨ 64 < n ∨ vL len = false
    · exact played_bad w A n c hs len hA B m d ops (by omega) (by omega) h'
    · have h3 : vL len = true := by
        cases hv : vL len
        · exact absurd (.inr (.inr hv)) h'
        · rfl
      exact played_ok w A n c hs len hA B m d ops hB (by omega) (by omega) (by omega) (by omega) h3
end
end Go.Proofs.Ytffodheoamlhjaa

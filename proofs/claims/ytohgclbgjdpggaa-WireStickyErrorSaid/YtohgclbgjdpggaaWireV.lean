import Derived.Test.YtohgclbgjdpggaaWireQ
namespace Go.Proofs.Ytohgclbgjdpggaa
open Go.RowKit

/-! ## The reference's reader in memory -/
structure Rq (w : World) (rb : Nat) (Av : Nat → Prop) (A : Option Addr) (n c : Nat) (s : RS) : Prop where
  top : Blk w rb 29 #[.slice A n c, .int .i64 s.err]
  sl : s.err = 0 → Sl w (fun i => Av i ∨ i = rb) 1 A n (bcells s.rest) ∧ n ≤ c
  av : ¬ Av rb
section
variable {w w' : World} {S Av Av' : Nat → Prop} {rb : Nat} {A : Option Addr} {n c : Nat} {s : RS}
theorem Rq.keep (h : Rq w rb Av A n c s) (hk : Keep S w w') (hS : ∀ i, i < w.heap.size → S i → Av i) : Rq w' rb Av A n c s :=
  ⟨h.top.keep hk (fun hs => h.av (hS _ h.top.lt hs)), fun e => ⟨(h.sl e).1.keep hk (fun i hi hs => .inl (hS i hi hs)), (h.sl e).2⟩, h.av⟩
theorem Rq.same (h : Rq w rb Av A n c s) (hk : Same w w') : Rq w' rb Av A n c s := h.keep hk (fun _ _ f => f.elim)
theorem Rq.wide (h : Rq w rb Av A n c s) (hS : ∀ i, i < w.heap.size → Av' i → Av i) : Rq w rb Av' A n c s :=
  ⟨h.top, fun e => ⟨(h.sl e).1.wide (fun i hi hs => hs.elim (fun a => .inl (hS i hi a)) .inr), (h.sl e).2⟩, fun a => h.av (hS _ h.top.lt a)⟩
end
def QPost (w : World) (rb : Nat) (Av : Nat → Prop) (s : RS) (v : Value) (e : Ending) (w' : World) : Prop :=
  ∃ A n c, e = .returned v ∧ Rq w' rb Av A n c s ∧ Keep (· = rb) w w'
theorem rdU_bound : ∀ (k U x : Nat), k ≤ 9 → U < 128 ^ k → (k = 9 → x % 128 ≤ 1) → U + x % 128 * 128 ^ k < 18446744073709551616 := by
  intro k U x hk hU h9
  have hp9 : (128 : Nat) ^ 9 = 9223372036854775808 := by decide
  have hp8 : (128 : Nat) ^ 8 = 72057594037927936 := by decide
  by_cases h : k = 9
  · have h1 := h9 h
    have h2 : 128 ^ k = 9223372036854775808 := by rw [h, hp9]
    have h3 := Nat.mul_le_mul_right (128 ^ k) h1
    clear hp9 hp8
    omega
  · have hle8 : 128 ^ k ≤ 72057594037927936 := by rw [← hp8]; exact Nat.pow_le_pow_right (by decide) (by clear hp9 hp8 hU; omega)
    have h1 : x % 128 ≤ 127 := by omega
    have h3 := Nat.mul_le_mul h1 hle8
    have h4 : 127 * 72057594037927936 + 72057594037927936 ≤ 18446744073709551616 := by decide
    exact Nat.lt_of_lt_of_le (Nat.add_lt_add_of_lt_of_le (Nat.lt_of_lt_of_le hU hle8) h3) (by rw [Nat.add_comm]; exact h4)

section
variable (w : World) (rb : Nat) (Av : Nat → Prop) (A : Option Addr) (n c : Nat)
/-- the loop of the reference's Int: k bytes are looked at -/
def QLoop (l0 : List UInt8) (u b i : Value) : Prop :=
  ∃ (k : Nat) (U P : Int), k ≤ 9 ∧ i = .int .i64 k ∧ u = .int .u64 U ∧ b = .int .u64 P ∧ P = ((128 ^ k : Nat) : Int) ∧ 0 ≤ U ∧ U.toNat < 128 ^ k ∧ rdU k U.toNat (l0.drop k) = rdU 0 0 l0 ∧ k ≤ l0.length
set_option maxRecDepth 100000 in
set_option maxHeartbeats 8000000 in
theorem qInt_ok (l0 : List UInt8) (h : Rq w rb Av A n c ⟨l0, 0⟩) (hn : n ≤ 1000000000) :
    Calls Try.prog 32 #[.pointer (some ⟨rb, 0, none⟩)] w (QPost w rb Av (rdInt ⟨l0, 0⟩).2 (.int .i64 (rdInt ⟨l0, 0⟩).1)) := by
  obtain ⟨hsl, hcap⟩ := h.sl rfl
  have hl : l0.length = n := by have := hsl.len; simpa [bcells] using this
  have c0 : w.cell? ⟨rb, 0, none⟩ = some (.slice A n c) := h.top.at_ 0
  have c1 : w.cell? ⟨rb, 1, none⟩ = some (.int .i64 0) := h.top.at_ 1
  have f0 := h.top.free 0
  have f1 := h.top.free 1
  have hrb := h.top.lt
  have hbad : ∀ (e : Int) (u : Nat) (r : List UInt8), rdU 0 0 l0 = (u, r, e) → ¬ e = 0 → QPost w rb Av (rdInt ⟨l0, 0⟩).2 (.int .i64 (rdInt ⟨l0, 0⟩).1) (.returned (.int .i64 0)) (w.setCell ⟨rb, 1, none⟩ (.int .i64 e)) := by
    intro e u r hu he
    unfold rdInt
    simp only [not_true_eq_false, if_false, hu, he]
    refine ⟨A, n, c, rfl, ⟨?_, fun e' => absurd e' he, h.av⟩, (Keep.refl _ w).put _ _⟩
    have := h.top.put 1 (.int .i64 e)
    simpa using this
  have hgood : ∀ (u k : Nat) (A' : Option Addr) (c' : Nat), k < n → rdU 0 0 l0 = (u, l0.drop (k + 1), 0) → (k + 1 < n → A' = A.map (·.add (k + 1))) → n - (k + 1) ≤ c' →
      QPost w rb Av (rdInt ⟨l0, 0⟩).2 (.int .i64 (rdInt ⟨l0, 0⟩).1) (.returned (.int .i64 (unzig u))) (w.setCell ⟨rb, 0, none⟩ (.slice A' (n - (k + 1)) c')) := by
    intro u k A' c' hk hu hA hc
    unfold rdInt
    simp only [not_true_eq_false, if_false, hu, if_true]
    have hkk : Keep (· = rb) w (w.setCell ⟨rb, 0, none⟩ (.slice A' (n - (k + 1)) c')) := (Keep.refl _ w).put _ _
    refine ⟨A', n - (k + 1), c', rfl, ⟨?_, fun _ => ⟨⟨?_, fun h0 => ?_⟩, hc⟩, h.av⟩, hkk⟩
    · have := h.top.put 0 (.slice A' (n - (k + 1)) c')
      simpa using this
    · rw [bcells_len, List.length_drop, hl]; omega
    · obtain ⟨b, off, rfl, hb, ha, hr⟩ := hsl.at_ (by omega)
      refine ⟨b, off + (k + 1), by rw [hA (by omega)]; simp [add_blk], by simpa using hb, ha, ?_⟩
      have hd := hr.drop (k + 1)
      have e : (bcells l0).drop (k + 1) = bcells (l0.drop (k + 1)) := by simp [bcells, List.map_drop]
      rw [e] at hd
      exact hd.keep hkk hb (fun e => ha (.inr e))
  have HB := hid hbad
  have HG := hid hgood
  have HS := hid hsl
  have HL := hid hl
  clear h hsl hl hbad hgood
  go_enter Try.func32, Try.ntmps32
  go_wp2
  go_loop [3, 4, 5] (fun u b i => QLoop l0 u b i) (fun _ _ i => 10 - (RowKit.intOf i).toNat)
  case atStart => exact ⟨0, 0, 1, by omega, rfl, rfl, rfl, rfl, by omega, by simp, rfl, by omega⟩
  case round =>
    obtain ⟨k, U, P, hk, rfl, rfl, rfl, hP, hU, hUk, hrd, hkl⟩ := hrel
    have HP := hid hP
    have HUK := hid hUk
    have HRD := hid hrd
    clear hP hUk hrd
    by_cases hkn : k < n
    · obtain ⟨x, hx⟩ := get_some (l := l0) (k := k) (by have := HL.out; omega)
      obtain ⟨bb, off, rfl, hb, ha, hr⟩ := HS.out.at_ (by omega)
      have q0 : w.cell? ⟨bb, off + k, none⟩ = some (.int .u8 x.toNat) := hr k _ (by simp [bcells, hx, bv])
      have hx256 := x.toNat_lt
      have hdr : l0.drop k = x :: l0.drop (k + 1) := by
        obtain ⟨h1, rfl⟩ := List.getElem?_eq_some_iff.1 hx
        exact List.drop_eq_getElem_cons h1
      have hr2 := HRD.out
      rw [hdr, rdU] at hr2
      have HR2 := hid hr2
      clear hr hdr hr2 hx
      by_cases hbad : (k = 9 ∧ ¬ x.toNat = 1) ∨ (0 < k ∧ x.toNat = 0)
      · have hq := HR2.out
        rw [if_pos hbad] at hq
        have HQ := hid (HB.out 2 _ _ hq.symm (by omega))
        clear hq
        rcases hbad with ⟨rfl, hb1⟩ | ⟨hb0, hb1⟩
        · have hx1 : ((x.toNat : Int) != 1) = true := by simp; omega
          clear hb1
          go_wp2
          go_ret
          exact HQ.out
        · rw [hb1] at q0
          by_cases hk9 : k = 9
          · subst hk9
            go_wp2
            go_ret
            exact HQ.out
          · have hk9' : ((k : Int) == 9) = false := by simp; omega
            go_wp2
            go_ret
            exact HQ.out
      · have hq := HR2.out
        rw [if_neg hbad] at hq
        have HQ := hid hq
        have h9 : k = 9 → x.toNat = 1 := by intro h; omega
        have hbd := rdU_bound k U.toNat x.toNat hk HUK.out (by intro h; have := h9 h; omega)
        obtain ⟨V, hV⟩ : ∃ V : Int, V = U + (x.toNat : Int) % 128 * P := ⟨_, rfl⟩
        have hVn : V = ((U.toNat + x.toNat % 128 * 128 ^ k : Nat) : Int) := by rw [hV, HP.out]; simp; omega
        have hV0 : 0 ≤ V := by rw [hVn]; exact Int.natCast_nonneg _
        have hV1 : V ≤ 18446744073709551615 := by rw [hVn]; exact Int.ofNat_le.2 (Nat.le_of_lt_succ hbd)
        have hP0 : 0 ≤ (x.toNat : Int) % 128 * P := Int.mul_nonneg (by omega) (by rw [HP.out]; exact Int.natCast_nonneg _)
        have hw1 : IntKind.u64.wrap ((x.toNat : Int) % 128 * P) = (x.toNat : Int) % 128 * P := by rw [IntKind.wrap_u64]; omega
        have hw2 : IntKind.u64.wrap (U + (x.toNat : Int) % 128 * P) = V := by rw [IntKind.wrap_u64]; omega
        have HVN := hid hVn
        have hx9 : k = 9 → ((x.toNat : Int) != 1) = false := by intro h; rw [h9 h]; decide
        have HX9 := hid hx9
        have HBAD := hid hbad
        clear hq hbad hbd hV hVn hP0 hx9 h9
        have hfin : ∀ (A' : Option Addr) (c' : Nat), x.toNat < 128 → (k + 1 < n → A' = some ⟨bb, off + (k + 1), none⟩) → n - (k + 1) ≤ c' → QPost w rb Av (rdInt ⟨l0, 0⟩).2 (.int .i64 (rdInt ⟨l0, 0⟩).1) (.returned (.int .i64 (unzig V.toNat))) (w.setCell ⟨rb, 0, none⟩ (.slice A' (n - (k + 1)) c')) := by
          intro A' c' hs hA hc
          have hq := HQ.out
          rw [if_pos hs] at hq
          refine HG.out V.toNat k A' c' hkn ?_ (fun h => by rw [hA h]; simp [add_blk]) hc
          rw [← hq, HVN.out, Int.toNat_natCast, Nat.mod_eq_of_lt hs]
        have HF := hid hfin
        have hnext : ¬ x.toNat < 128 → V.toNat < 128 ^ (k + 1) ∧ rdU (k + 1) V.toNat (l0.drop (k + 1)) = rdU 0 0 l0 ∧ k + 1 ≤ 9 := by
          intro hs
          have hq := HQ.out
          rw [if_neg hs] at hq
          refine ⟨by rw [HVN.out, Int.toNat_natCast]; exact vlt HUK.out, by rw [HVN.out, Int.toNat_natCast]; exact hq, ?_⟩
          have := HBAD.out; omega
        have HN := hid hnext
        have hw3 : ∃ P' : Int, IntKind.u64.wrap (P * 128) = P' ∧ (k + 1 ≤ 9 → P' = ((128 ^ (k + 1) : Nat) : Int)) := ⟨_, rfl, fun h => by
          have h9 : (128 : Nat) ^ (k + 1) ≤ 128 ^ 9 := Nat.pow_le_pow_right (by decide) h
          have e9 : (128 : Nat) ^ 9 = 9223372036854775808 := by decide
          have hs : (128 : Nat) ^ (k + 1) = 128 ^ k * 128 := Nat.pow_succ ..
          rw [IntKind.wrap_u64, HP.out]
          rw [e9] at h9
          clear e9
          omega⟩
        obtain ⟨P', hw3, hP'⟩ := hw3
        have HP' := hid hP'
        have hpar : V % 2 = 1 → unzig V.toNat = -(V / 2) - 1 := by intro h; unfold unzig; rw [if_neg (by omega)]; omega
        have hpar2 : ¬ V % 2 = 1 → unzig V.toNat = V / 2 := by intro h; unfold unzig; rw [if_pos (by omega)]; omega
        have HPAR := hid hpar
        have HPAR2 := hid hpar2
        clear hfin hnext hP' hpar hpar2
        have hks : (k = 0 ∧ ∃ bq : Bool, ((x.toNat : Int) == 0) = bq) ∨ (((k : Int) == 9) = false ∧ ((x.toNat : Int) == 0) = false) ∨ (k = 9 ∧ ((x.toNat : Int) != 1) = false ∧ ((x.toNat : Int) == 0) = false) := by
          have hb := HBAD.out
          by_cases h0 : k = 0
          · exact .inl ⟨h0, _, rfl⟩
          · by_cases h9 : k = 9
            · refine .inr (.inr ⟨h9, HX9.out h9, ?_⟩); simp; omega
            · refine .inr (.inl ⟨by simp; omega, by simp; omega⟩)
        clear HX9 HBAD HQ HR2 HB HG
        by_cases hs : x.toNat < 128
        · by_cases hc : c = k + 1
          · have hn1 : n = k + 1 := by omega
            by_cases hp : V % 2 = 1
            · have hp' : (V % 2 == 1) = true := by simpa using hp
              rcases hks with ⟨rfl, bq, x0⟩ | ⟨k9, x0⟩ | ⟨rfl, x1, x0⟩
              · rw [Nat.add_zero] at q0
                cases bq
                all_goals
                  go_wp2
                  go_ret
                  have hz := HF.out (some ⟨bb, off, none⟩) 0 hs (by omega) (by omega)
                  rw [HPAR.out hp] at hz
                  first | exact hz | (simp [hn1] at hz ⊢; exact hz)
              · go_wp2
                go_ret
                have hz := HF.out (some ⟨bb, off, none⟩) 0 hs (by omega) (by omega)
                rw [HPAR.out hp] at hz
                first | exact hz | (simp [hn1] at hz ⊢; exact hz)
              · go_wp2
                go_ret
                have hz := HF.out (some ⟨bb, off, none⟩) 0 hs (by omega) (by omega)
                rw [HPAR.out hp] at hz
                first | exact hz | (simp [hn1] at hz ⊢; exact hz)
            · have hp' : (V % 2 == 1) = false := by simpa using hp
              rcases hks with ⟨rfl, bq, x0⟩ | ⟨k9, x0⟩ | ⟨rfl, x1, x0⟩
              · rw [Nat.add_zero] at q0
                cases bq
                all_goals
                  go_wp2
                  go_ret
                  have hz := HF.out (some ⟨bb, off, none⟩) 0 hs (by omega) (by omega)
                  rw [HPAR2.out hp] at hz
                  first | exact hz | (simp [hn1] at hz ⊢; exact hz)
              · go_wp2
                go_ret
                have hz := HF.out (some ⟨bb, off, none⟩) 0 hs (by omega) (by omega)
                rw [HPAR2.out hp] at hz
                first | exact hz | (simp [hn1] at hz ⊢; exact hz)
              · go_wp2
                go_ret
                have hz := HF.out (some ⟨bb, off, none⟩) 0 hs (by omega) (by omega)
                rw [HPAR2.out hp] at hz
                first | exact hz | (simp [hn1] at hz ⊢; exact hz)
          · have hc' : ¬ (c : Int) = k + 1 := by omega
            by_cases hp : V % 2 = 1
            · have hp' : (V % 2 == 1) = true := by simpa using hp
              rcases hks with ⟨rfl, bq, x0⟩ | ⟨k9, x0⟩ | ⟨rfl, x1, x0⟩
              · rw [Nat.add_zero] at q0
                cases bq
                all_goals
                  go_wp2
                  go_ret
                  have hz := HF.out (some ⟨bb, off + (0 + 1), none⟩) (c - (0 + 1)) hs (fun _ => rfl) (by omega)
                  rw [HPAR.out hp] at hz
                  first | exact hz | (simp  at hz ⊢; exact hz)
              · go_wp2
                go_ret
                have hz := HF.out (some ⟨bb, off + (k + 1), none⟩) (c - (k + 1)) hs (fun _ => rfl) (by omega)
                rw [HPAR.out hp] at hz
                first | exact hz | (simp  at hz ⊢; exact hz)
              · go_wp2
                go_ret
                have hz := HF.out (some ⟨bb, off + (9 + 1), none⟩) (c - (9 + 1)) hs (fun _ => rfl) (by omega)
                rw [HPAR.out hp] at hz
                first | exact hz | (simp  at hz ⊢; exact hz)
            · have hp' : (V % 2 == 1) = false := by simpa using hp
              rcases hks with ⟨rfl, bq, x0⟩ | ⟨k9, x0⟩ | ⟨rfl, x1, x0⟩
              · rw [Nat.add_zero] at q0
                cases bq
                all_goals
                  go_wp2
                  go_ret
                  have hz := HF.out (some ⟨bb, off + (0 + 1), none⟩) (c - (0 + 1)) hs (fun _ => rfl) (by omega)
                  rw [HPAR2.out hp] at hz
                  first | exact hz | (simp  at hz ⊢; exact hz)
              · go_wp2
                go_ret
                have hz := HF.out (some ⟨bb, off + (k + 1), none⟩) (c - (k + 1)) hs (fun _ => rfl) (by omega)
                rw [HPAR2.out hp] at hz
                first | exact hz | (simp  at hz ⊢; exact hz)
              · go_wp2
                go_ret
                have hz := HF.out (some ⟨bb, off + (9 + 1), none⟩) (c - (9 + 1)) hs (fun _ => rfl) (by omega)
                rw [HPAR2.out hp] at hz
                first | exact hz | (simp  at hz ⊢; exact hz)
        · obtain ⟨hn1, hn2, hn3⟩ := HN.out hs
          have HN1 := hid hn1
          have HN2 := hid hn2
          have hlk : k + 1 ≤ l0.length := by have := HL.out; omega
          clear hn1 hn2
          rcases hks with ⟨rfl, bq, x0⟩ | ⟨k9, x0⟩ | ⟨rfl, x1, x0⟩
          · rw [Nat.add_zero] at q0
            cases bq
            all_goals
              go_wp2
              go_round
              case rel => exact ⟨1, V, P', by omega, rfl, rfl, rfl, HP'.out hn3, hV0, HN1.out, HN2.out, hlk⟩
              case measure => simp [RowKit.intOf]
          · go_wp2
            go_round
            case rel => exact ⟨k + 1, V, P', hn3, by go_num, rfl, rfl, HP'.out hn3, hV0, HN1.out, HN2.out, hlk⟩
            case measure => simp [RowKit.intOf]; omega
          · exact absurd hn3 (by omega)
    · have hkn' : k = n := by have := HL.out; omega
      have hq := HRD.out
      rw [List.drop_eq_nil_of_le (by have := HL.out; omega), rdU] at hq
      have HQ := hid (HB.out 11 _ _ hq.symm (by omega))
      clear hq hkl hkn
      subst hkn'
      go_wp2
      go_ret
      exact HQ.out
end
end Go.Proofs.Ytohgclbgjdpggaa

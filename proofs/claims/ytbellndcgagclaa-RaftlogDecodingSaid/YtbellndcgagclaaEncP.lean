import Derived.Test.YtbellndcgagclaaWireS
import Derived.Test.YtbellndcgagclaaLog
namespace Go.Proofs.Ytbellndcgagclaa
open Go.RowKit

/-! ## An entry's encoding, in plain Lean -/
def toU (l : List Int) : List UInt8 := l.map (fun x => x.toNat.toUInt8)
def ofU (l : List UInt8) : List Int := l.map (fun x => (x.toNat : Int))
theorem ubs_ofU (l : List UInt8) : ubs (ofU l) = bcells l := by simp [ubs, ofU, bcells, bv]
theorem ofU_bound (l : List UInt8) : ∀ x ∈ ofU l, 0 ≤ x ∧ x ≤ 255 := by
  intro x hx
  simp only [ofU, List.mem_map] at hx
  obtain ⟨b, _, rfl⟩ := hx
  have := b.toNat_lt
  omega
theorem ofU_toU : ∀ (l : List Int), (∀ x ∈ l, 0 ≤ x ∧ x ≤ 255) → ofU (toU l) = l
  | [], _ => rfl
  | a :: l, h => by
    have ih := ofU_toU l (fun x hx => h x (by simp [hx]))
    have ha := h a (by simp)
    simp only [ofU, toU, List.map_cons] at ih ⊢
    rw [ih, u8_small (by omega)]
    congr 1
    omega
theorem bcells_toU {l : List Int} (h : ∀ x ∈ l, 0 ≤ x ∧ x ≤ 255) : bcells (toU l) = ubs l := by rw [← ubs_ofU, ofU_toU l h]
theorem toU_len (l : List Int) : (toU l).length = l.length := by simp [toU]
theorem toU_ofU (l : List UInt8) : toU (ofU l) = l := by
  simp only [toU, ofU, List.map_map]
  rw [show ((fun x : Int => x.toNat.toUInt8) ∘ fun x : UInt8 => (x.toNat : Int)) = id from funext fun x => by simp]
  simp
def encE (t k : Int) (b : List UInt8) : List UInt8 := encI t ++ encI k ++ encD b
def encQ (q : PE) : List UInt8 := if rightP q = true then encE q.1 q.2.1 (toU q.2.2) else []
def decR (bs : List UInt8) : List UInt8 × RS := rdBytes (rdInt (rdInt ⟨bs, 0⟩).2).2
def decV (bs : List UInt8) : PE := ((rdInt ⟨bs, 0⟩).1, (rdInt (rdInt ⟨bs, 0⟩).2).1, ofU (decR bs).1)
def decE (bs : List UInt8) : Int := if endE (decR bs).2 = 0 then (if rightP (decV bs) = true then 0 else 2) else endE (decR bs).2
def decQ (bs : List UInt8) : PE := if decE bs = 0 then decV bs else (0, 0, [])
theorem rightP_iff {q : PE} (h : rightP q = true) : 1 ≤ q.1 ∧ q.1 ≤ 1099511627776 ∧ 1 ≤ q.2.1 ∧ q.2.1 ≤ 3 ∧ q.2.2.length ≤ 8192 := by
  simp only [rightP, Bool.and_eq_true, decide_eq_true_eq] at h
  omega
theorem encE_pos (t k : Int) (b : List UInt8) : 1 ≤ (encE t k b).length := by
  have := encI_pos t
  simp only [encE, List.length_append]
  omega
theorem encD_le {b : List UInt8} (h : b.length ≤ 1000000) : (encD b).length ≤ b.length + 10 := by
  have := encI_le (n := (b.length : Int)) ⟨by omega, by omega⟩
  simp only [encD, List.length_append]
  omega
theorem encE_le {t k : Int} {b : List UInt8} (ht : i64ok t) (hk : i64ok k) (h : b.length ≤ 1000000) : (encE t k b).length ≤ b.length + 30 := by
  have h1 := encI_le ht
  have h2 := encI_le hk
  have h3 := encD_le h
  simp only [encE, List.length_append]
  omega
theorem decR_enc {t k : Int} {b : List UInt8} (r : List UInt8) (ht : i64ok t) (hk : i64ok k) (hb : b.length ≤ 1000000) :
    (rdInt ⟨encE t k b ++ r, 0⟩).1 = t ∧ (rdInt (rdInt ⟨encE t k b ++ r, 0⟩).2).1 = k ∧ decR (encE t k b ++ r) = (b, ⟨r, 0⟩) := by
  have e1 : encE t k b ++ r = encI t ++ (encI k ++ (encD b ++ r)) := by simp [encE]
  have h1 := rdInt_enc ht (encI k ++ (encD b ++ r))
  have h2 := rdInt_enc hk (encD b ++ r)
  have h3 := rdBytes_enc hb r
  unfold decR
  rw [e1, h1]
  simp only
  rw [h2]
  exact ⟨trivial, rfl, h3⟩
theorem dec_enc {q : PE} (h : rightP q = true) (hb : ∀ x ∈ q.2.2, 0 ≤ x ∧ x ≤ 255) : decE (encQ q) = 0 ∧ decQ (encQ q) = q := by
  obtain ⟨t, k, b⟩ := q
  have hr := rightP_iff h
  simp only at hr hb
  have hd := decR_enc (t := t) (k := k) (b := toU b) [] ⟨by omega, by omega⟩ ⟨by omega, by omega⟩ (by rw [toU_len]; omega)
  rw [List.append_nil] at hd
  have he : encQ (t, k, b) = encE t k (toU b) := by unfold encQ; rw [if_pos h]
  have hv : decV (encQ (t, k, b)) = (t, k, b) := by
    unfold decV
    rw [he, hd.1, hd.2.1, hd.2.2, ofU_toU b hb]
  have h0 : decE (encQ (t, k, b)) = 0 := by
    unfold decE
    rw [hv, he, hd.2.2]
    simp [endE, h]
  exact ⟨h0, by unfold decQ; rw [if_pos h0, hv]⟩
theorem dec_nil : decE [] = 11 := by decide
theorem decE_err (bs : List UInt8) (h : ¬ decE bs = 0) : decE bs = 2 ∨ decE bs = 11 := by
  have hE : ∀ s : RS, s.err = 0 ∨ s.err = 2 ∨ s.err = 11 → (rdInt s).2.err = 0 ∨ (rdInt s).2.err = 2 ∨ (rdInt s).2.err = 11 := by
    intro s hs
    by_cases h0 : s.err = 0
    · unfold rdInt
      rw [if_neg (by simpa using h0)]
      by_cases h1 : (rdU 0 0 s.rest).2.2 = 0
      · rw [if_pos h1]; exact .inl rfl
      · rw [if_neg h1]
        rcases (rdU_err s.rest 0 0 _ _ _ rfl h1).2.2 with h2 | h2
        · exact .inr (.inr h2)
        · exact .inr (.inl h2)
    · rw [rdInt_err h0]; exact hs
  have hM : ∀ s : RS, s.err = 0 ∨ s.err = 2 ∨ s.err = 11 → (rdMany s).2.err = 0 ∨ (rdMany s).2.err = 2 ∨ (rdMany s).2.err = 11 := by
    intro s hs
    have := hE s hs
    unfold rdMany
    split
    · exact this
    · split
      · exact .inr (.inl rfl)
      · split
        · exact .inr (.inr rfl)
        · exact this
  have hB : ∀ s : RS, s.err = 0 ∨ s.err = 2 ∨ s.err = 11 → (rdBytes s).2.err = 0 ∨ (rdBytes s).2.err = 2 ∨ (rdBytes s).2.err = 11 := by
    intro s hs
    have := hM s hs
    unfold rdBytes
    split
    · exact this
    · exact .inl rfl
  have hF := hB _ (hE _ (hE ⟨bs, 0⟩ (.inl rfl)))
  have hF' : (decR bs).2.err = 0 ∨ (decR bs).2.err = 2 ∨ (decR bs).2.err = 11 := hF
  unfold decE at h ⊢
  by_cases h1 : endE (decR bs).2 = 0
  · rw [if_pos h1] at h ⊢
    by_cases h2 : rightP (decV bs) = true
    · rw [if_pos h2] at h; exact absurd rfl h
    · rw [if_neg h2]; exact .inl rfl
  · rw [if_neg h1]
    unfold endE at h1 ⊢
    by_cases h3 : (decR bs).2.err = 0
    · rw [if_pos h3] at h1 ⊢
      by_cases h4 : (decR bs).2.rest = []
      · rw [if_pos h4] at h1; exact absurd rfl h1
      · rw [if_neg h4]; exact .inl rfl
    · rw [if_neg h3]
      rcases hF' with h4 | h4 | h4
      · exact absurd h4 h3
      · exact .inl h4
      · exact .inr h4
/-- what is decoded has the encoding -/
theorem dec_of (bs : List UInt8) (h : decE bs = 0) : rightP (decV bs) = true ∧ bs = encE (decV bs).1 (decV bs).2.1 (decR bs).1 ∧ encQ (decV bs) = bs := by
  have hr : rightP (decV bs) = true := by
    unfold decE at h
    by_cases h1 : endE (decR bs).2 = 0
    · rw [if_pos h1] at h
      by_cases h2 : rightP (decV bs) = true
      · exact h2
      · rw [if_neg h2] at h; omega
    · rw [if_neg h1] at h; exact absurd h h1
  have he : endE (decR bs).2 = 0 := by
    unfold decE at h
    by_cases h1 : endE (decR bs).2 = 0
    · exact h1
    · rw [if_neg h1] at h; exact h
  have h3 : (decR bs).2.err = 0 ∧ (decR bs).2.rest = [] := by
    unfold endE at he
    by_cases h3 : (decR bs).2.err = 0
    · rw [if_pos h3] at he
      by_cases h4 : (decR bs).2.rest = []
      · exact ⟨h3, h4⟩
      · rw [if_neg h4] at he; omega
    · rw [if_neg h3] at he; exact absurd he h3
  have h2 : (rdInt (rdInt ⟨bs, 0⟩).2).2.err = 0 := by
    by_cases hc : (rdInt (rdInt ⟨bs, 0⟩).2).2.err = 0
    · exact hc
    · have := rdBytes_err hc
      have h5 : (decR bs).2.err = (rdInt (rdInt ⟨bs, 0⟩).2).2.err := by unfold decR; rw [this]
      rw [h5] at h3; exact absurd h3.1 hc
  have h1 : (rdInt ⟨bs, 0⟩).2.err = 0 := by
    by_cases hc : (rdInt ⟨bs, 0⟩).2.err = 0
    · exact hc
    · rw [rdInt_err hc] at h2; exact absurd h2 hc
  have e1 := rdInt_of h1
  have r1 := rs_of h1
  have h2' : (rdInt ⟨(rdInt ⟨bs, 0⟩).2.rest, 0⟩).2.err = 0 := by rw [← r1]; exact h2
  have e2 := rdInt_of h2'
  rw [← r1] at e2
  have r2 := rs_of h2
  have h3' : (rdBytes ⟨(rdInt (rdInt ⟨bs, 0⟩).2).2.rest, 0⟩).2.err = 0 := by rw [← r2]; exact h3.1
  have e3 := rdBytes_of h3'
  rw [← r2] at e3
  have e4 : bs = encE (decV bs).1 (decV bs).2.1 (decR bs).1 := by
    have e3' : (rdInt (rdInt ⟨bs, 0⟩).2).2.rest = encD (decR bs).1 ++ (decR bs).2.rest := e3
    rw [h3.2, List.append_nil] at e3'
    conv => lhs; rw [e1.1, e2.1, e3']
    simp [encE, decV]
  refine ⟨hr, e4, ?_⟩
  unfold encQ
  rw [if_pos hr]
  have : toU (decV bs).2.2 = (decR bs).1 := by simp only [decV]; exact toU_ofU _
  rw [this]
  exact e4.symm
theorem dec_more {t k : Int} {b : List UInt8} (ht : i64ok t) (hk : i64ok k) (hb : b.length ≤ 1000000) : decE (encE t k b ++ [0]) = 2 := by
  have hd := (decR_enc [0] ht hk hb).2.2
  unfold decE
  rw [hd]
  simp [endE]
theorem dec_cut {t k : Int} {b : List UInt8} (ht : i64ok t) (hk : i64ok k) (hb : b.length ≤ 1000000) {c : Nat} (hc : c < (encE t k b).length) : decE ((encE t k b).take c) = 11 := by
  have hR : (decR ((encE t k b).take c)).2.err = 11 := by
    have e0 : encE t k b = encI t ++ (encI k ++ encD b) := by simp [encE]
    rw [e0] at hc ⊢
    rcases take_app (encI t) (encI k ++ encD b) c with ⟨h1, e1⟩ | ⟨h1, e1⟩
    · rw [e1]
      unfold decR
      rw [rdInt_cut ht h1]
      simp only
      rw [rdInt_err (by simp), rdBytes_err (by simp)]
    · rw [e1]
      rcases take_app (encI k) (encD b) (c - (encI t).length) with ⟨h2, e2⟩ | ⟨h2, e2⟩
      · rw [e2]
        unfold decR
        rw [rdInt_enc ht]
        simp only
        rw [rdInt_cut hk h2, rdBytes_err (by simp)]
      · rw [e2]
        unfold decR
        rw [rdInt_enc ht]
        simp only
        rw [rdInt_enc hk]
        simp only
        rw [rdBytes_cut hb (by simp only [List.length_append] at hc; omega)]
  unfold decE endE
  rw [hR]
  simp
end Go.Proofs.Ytbellndcgagclaa

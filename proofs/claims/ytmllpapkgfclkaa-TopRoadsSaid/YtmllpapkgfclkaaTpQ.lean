import Derived.Test.YtmllpapkgfclkaaTpU
namespace Go.Proofs.Ytmllpapkgfclkaa

/-! ## Plain: the shortest path -/
theorem IsDist.hi {G : WG} {W : Int} {s : Nat} {D : Nat → Int} (hG : G.Ok W) (h : IsDist G s D) : ∀ (n : Nat) (v : Nat), v < G.N → D v ≠ INF → D v ≤ n → D v ≤ W * (near D (D v) G.N : Nat) := by
  intro n
  induction n with
  | zero =>
    intro v hv _ hn
    have h1 : (0 : Int) ≤ W * (near D (D v) G.N : Nat) := Int.mul_nonneg (by have := hG.W1; omega) (by omega)
    have h2 : ((0 : Nat) : Int) = 0 := rfl
    omega
  | succ n ih =>
    intro v hv hf hn
    have hW := hG.W1
    by_cases e : v = s
    · subst e
      rw [h.d0]
      exact Int.mul_nonneg (by omega) (by omega)
    · obtain ⟨i, h1, h2, h3, h4, h5⟩ := h.att v hv e hf
      have hw := hG.w1 i h1 h3
      have hfN := hG.f i h1
      have hi := ih _ hfN h4 (by omega)
      have h6 : near D (D (G.fr i)) G.N + 1 ≤ near D (D v) G.N := near_strict (u := G.fr i) G.N hfN (fun z _ hz => by omega) (by omega) (by omega)
      have h7 : W * ((near D (D (G.fr i)) G.N + 1 : Nat) : Int) ≤ W * (near D (D v) G.N : Nat) := Int.mul_le_mul_of_nonneg_left (by omega) (by omega)
      rw [mul_succ_int] at h7
      omega
theorem IsDist.small {G : WG} {W : Int} {s : Nat} {D : Nat → Int} (hG : G.Ok W) (h : IsDist G s D) {v : Nat} (hv : v < G.N) (hf : D v ≠ INF) : D v ≤ W * G.N := by
  have h1 := h.hi hG (D v).toNat v hv hf (by have := (h.lo v hv).1; omega)
  have h2 := near_le D (D v) G.N
  have h3 : W * ((near D (D v) G.N : Nat) : Int) ≤ W * G.N := Int.mul_le_mul_of_nonneg_left (by omega) (by have := hG.W1; omega)
  omega
theorem wtF {N : Nat} {l : List E3} (times : List Int) {i : Nat} (hi : i < l.length) : (wgF N l (ttL times l.length)).wt i = ttA times i := by
  show (ttL times l.length)[i]?.getD INF = _
  simp [ttL, hi]
theorem wtB {N : Nat} {l : List E3} (times : List Int) {i : Nat} (hi : i < l.length) : (wgB N l (upL times l.length)).wt i = up (ttA times i) := by
  show (upL times l.length)[i]?.getD INF = _
  simp [upL, hi]
theorem up_fin {v : Int} (h : v ≠ INF) : up v = v * 8192 + 1 := if_neg h
theorem back_le {N : Nat} {l : List E3} {times : List Int} {a b : Nat} {D D' : Nat → Int} (hN : N ≤ 8) (hok : ∀ e ∈ l, (0 ≤ e.a ∧ e.a < N) ∧ (0 ≤ e.b ∧ e.b < N))
    (h : IsDist (wgF N l (ttL times l.length)) a D) (g : IsDist (wgB N l (upL times l.length)) b D') : ∀ (n : Nat) (v : Nat), v < N → D v ≠ INF → D v ≤ n → D' v ≠ INF → D' a ≠ INF ∧ D' a ≤ 8192 * D v + near D (D v) N + D' v := by
  have hF := tt_ok times hN hok
  have hB := up_wg times hN hok
  intro n
  induction n with
  | zero =>
    intro v hv hf hn hd
    by_cases e : v = a
    · subst e; rw [h.d0]; exact ⟨hd, by omega⟩
    · obtain ⟨i, h1, h2, h3, h4, h5⟩ := h.att v hv e hf
      have := hF.w1 i h1 h3
      have := (h.lo _ (hF.f i h1)).1
      omega
  | succ n ih =>
    intro v hv hf hn hd
    by_cases e : v = a
    · subst e; rw [h.d0]; exact ⟨hd, by omega⟩
    · obtain ⟨i, h1, h2, h3, h4, h5⟩ := h.att v hv e hf
      have hw := hF.w1 i h1 h3
      have hfN : (wgF N l (ttL times l.length)).fr i < N := hF.f i h1
      rw [wtF times h1] at h3 h5 hw
      have hr := g.rel i h1 (by rw [wtB times h1, up_fin h3]; unfold INF; omega) (by show D' ((wgF N l (ttL times l.length)).to_ i) ≠ INF; rw [h2]; exact hd)
      have hr2 : D' ((wgF N l (ttL times l.length)).fr i) ≤ D' ((wgF N l (ttL times l.length)).to_ i) + (wgB N l (upL times l.length)).wt i := hr
      rw [h2, wtB times h1, up_fin h3] at hr2
      have hs := g.small hB (show v < (wgB N l (upL times l.length)).N from hv) hd
      have hs2 : D' v ≤ 8589934593 * (N : Int) := hs
      have hne : D' ((wgF N l (ttL times l.length)).fr i) ≠ INF := by unfold INF; omega
      obtain ⟨i1, i2⟩ := ih _ hfN h4 (by omega) hne
      have h6 : near D (D ((wgF N l (ttL times l.length)).fr i)) N + 1 ≤ near D (D v) N := near_strict (u := (wgF N l (ttL times l.length)).fr i) N hfN (fun z _ hz => by omega) (by omega) (by omega)
      exact ⟨i1, by omega⟩
/-- Along a walk of open edges the distances fall. -/
theorem fore_le {N : Nat} {l : List E3} {times : List Int} {a b : Nat} {D D' : Nat → Int} {P : List Nat} {nu : Nat → Int} (_hN : N ≤ 8) (ha : a < N) (hok : ∀ e ∈ l, (0 ≤ e.a ∧ e.a < N) ∧ (0 ≤ e.b ∧ e.b < N))
    (h : IsDist (wgF N l (ttL times l.length)) a D) (hW : Way l a b P nu) (hfit : ∀ k i, P[k]? = some i → Fit l times D' (nu k) i) (hP : P.length ≤ 16384) : ∀ k, k ≤ P.length → 0 ≤ nu k ∧ nu k < N ∧ D (nu k).toNat ≤ sumT (ttA times) (P.take k) ∧ 0 ≤ sumT (ttA times) (P.take k) ∧ sumT (ttA times) (P.take k) ≤ 1048576 * (k : Int) ∧
      8192 * sumT (ttA times) (P.take k) + k + D' (nu k).toNat = D' a := by
  intro k
  induction k with
  | zero =>
    intro _
    have h0 := hW.st
    rw [h0]
    refine ⟨by omega, by omega, ?_, ?_, ?_, ?_⟩ <;> simp [sumT, h.d0]
  | succ k ih =>
    intro hk
    obtain ⟨i1, i2, i3, i4, i5, i6⟩ := ih (by omega)
    obtain ⟨i, hi⟩ := get_some (l := P) (k := k) (by omega)
    obtain ⟨e, he, hea, hup, heq⟩ := hfit k i hi
    obtain ⟨e', he', hea', heb'⟩ := hW.step k i hi
    rw [he] at he'
    injection he' with he'
    subst he'
    have hil := (List.getElem?_eq_some_iff.1 he).1
    have hb := hok e (List.mem_of_getElem? he)
    have htt : ttA times i ≠ INF := fun e2 => hup (by rw [e2]; rfl)
    have hta := ttA_ok times i htt
    rw [up_fin htt] at heq
    have hfr : (wgF N l (ttL times l.length)).fr i = (nu k).toNat := by
      show ((l[i]?.map E3.a).getD 0).toNat = _
      rw [he, ← hea]; rfl
    have hto : (wgF N l (ttL times l.length)).to_ i = (nu (k + 1)).toNat := by
      show ((l[i]?.map E3.b).getD 0).toNat = _
      rw [he, ← heb']; rfl
    have hr := h.rel i hil (by rw [wtF times hil]; exact htt) (by rw [hfr]; unfold INF; omega)
    rw [hfr, hto, wtF times hil] at hr
    rw [sumT_snoc _ hi]
    rw [heb'] at heq hb
    refine ⟨by omega, by omega, by omega, by omega, by omega, by omega⟩
/-- What Path finds is a shortest path. -/
theorem path_none {N : Nat} {l : List E3} {times : List Int} {a b : Nat} {D D' : Nat → Int} (hN : N ≤ 8) (hb : b < N) (hok : ∀ e ∈ l, (0 ≤ e.a ∧ e.a < N) ∧ (0 ≤ e.b ∧ e.b < N))
    (h : IsDist (wgF N l (ttL times l.length)) a D) (g : IsDist (wgB N l (upL times l.length)) b D') (hd : D' a = INF) : D b = INF := by
  by_cases e : D b = INF
  · exact e
  · exact absurd hd (back_le hN hok h g (D b).toNat b hb e (by have := (h.lo b hb).1; omega) (by rw [g.d0]; decide)).1
theorem path_law {N : Nat} {l : List E3} {times : List Int} {a b : Nat} {D D' : Nat → Int} {P : List Nat} {nu : Nat → Int} (hN : N ≤ 8) (ha : a < N) (hb : b < N) (hok : ∀ e ∈ l, (0 ≤ e.a ∧ e.a < N) ∧ (0 ≤ e.b ∧ e.b < N))
    (h : IsDist (wgF N l (ttL times l.length)) a D) (g : IsDist (wgB N l (upL times l.length)) b D') (hW : Way l a b P nu) (hfit : ∀ k i, P[k]? = some i → Fit l times D' (nu k) i) (hP : P.length ≤ 16384) :
    sumT (ttA times) P = D b ∧ D' a / 8192 = D b ∧ D b < 4611686018427387904 ∧ ∀ i ∈ P, ttA times i ≠ INF := by
  obtain ⟨i1, i2, i3, i4, i5, i6⟩ := fore_le hN ha hok h hW hfit hP P.length (Nat.le_refl _)
  rw [List.take_length] at i3 i4 i5 i6
  rw [hW.en] at i3 i6
  simp only [Int.toNat_natCast] at i3 i6
  rw [g.d0] at i6
  have hne : D b ≠ INF := by unfold INF; omega
  have hbk := (back_le hN hok h g (D b).toNat b hb hne (by have := (h.lo b hb).1; omega) (by rw [g.d0]; decide)).2
  rw [g.d0] at hbk
  have hnr := near_le D (D b) N
  have hs : sumT (ttA times) P = D b := by omega
  refine ⟨hs, by omega, by omega, fun i hi e => ?_⟩
  obtain ⟨k, hk⟩ := List.getElem?_of_mem hi
  obtain ⟨e1, _, _, hup, _⟩ := hfit k i hk
  exact hup (by rw [e]; rfl)
end Go.Proofs.Ytmllpapkgfclkaa

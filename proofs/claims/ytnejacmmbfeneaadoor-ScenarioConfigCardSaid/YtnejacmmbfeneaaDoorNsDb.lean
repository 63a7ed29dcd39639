namespace Go.Proofs.YtnejacmmbfeneaaDoor
theorem d1 (c r : Nat) (h : c < 256) : (c + 256 * r) / 256 = r := by omega
theorem d2 (c d r : Nat) (h : c < 256) (h2 : d < 256) : (c + 256 * (d + 256 * r)) / 65536 = r := by omega
theorem d4 (c d e f r : Nat) (h : c < 256) (h2 : d < 256) (h3 : e < 256) (h4 : f < 256) : (c + 256 * (d + 256 * (e + 256 * (f + 256 * r)))) / 4294967296 = r := by omega
theorem m1 (c r : Nat) (h : c < 128) : (c + 256 * r) % 128 = c := by omega
theorem add_b (a b r s : Nat) : (a + 256 * r) + (b + 256 * s) = (a + b) + 256 * (r + s) := by omega
theorem add_l (a b r : Nat) : (a + 256 * r) + b = (a + b) + 256 * r := by omega
theorem lt_b {c r m : Nat} (h : c < 256) (h2 : r < m) : c + 256 * r < 256 * m := by omega
theorem byte8 {a0 a1 a2 a3 a4 a5 a6 a7 : Nat} (h0 : a0 < 256) (h1 : a1 < 256) (h2 : a2 < 256) (h3 : a3 < 256) (h4 : a4 < 256) (h5 : a5 < 256) (h6 : a6 < 256) (h7 : a7 < 16) :
    a0 + 256 * (a1 + 256 * (a2 + 256 * (a3 + 256 * (a4 + 256 * (a5 + 256 * (a6 + 256 * a7)))))) < 1152921504606846976 :=
  lt_b h0 (lt_b h1 (lt_b h2 (lt_b h3 (lt_b h4 (lt_b h5 (lt_b h6 h7))))))
theorem e4_ (c0 c1 c2 c3 c4 c5 c6 c7 : Nat) (h : c0 < 256) : (c0 + 256 * (c1 + 256 * (c2 + 256 * (c3 + 256 * (c4 + 256 * (c5 + 256 * (c6 + 256 * (c7)))))))) + (c0 + 256 * (c1 + 256 * (c2 + 256 * (c3 + 256 * (c4 + 256 * (c5 + 256 * (c6 + 256 * (c7)))))))) / 256 = (c0 + c1) + 256 * ((c1 + c2) + 256 * ((c2 + c3) + 256 * ((c3 + c4) + 256 * ((c4 + c5) + 256 * ((c5 + c6) + 256 * ((c6 + c7) + 256 * (c7))))))) := by
  rw [d1 _ _ h]
  simp only [add_b]
  rw [add_l]
theorem e5_ (c0 c1 c2 c3 c4 c5 c6 c7 : Nat) (h : c0 < 256) (h1 : c1 < 256) : (c0 + 256 * (c1 + 256 * (c2 + 256 * (c3 + 256 * (c4 + 256 * (c5 + 256 * (c6 + 256 * (c7)))))))) + (c0 + 256 * (c1 + 256 * (c2 + 256 * (c3 + 256 * (c4 + 256 * (c5 + 256 * (c6 + 256 * (c7)))))))) / 65536 = (c0 + c2) + 256 * ((c1 + c3) + 256 * ((c2 + c4) + 256 * ((c3 + c5) + 256 * ((c4 + c6) + 256 * ((c5 + c7) + 256 * (c6 + 256 * (c7))))))) := by
  rw [d2 _ _ _ h h1]
  simp only [add_b]
  rw [add_l]
theorem e6_ (c0 c1 c2 c3 c4 c5 c6 c7 : Nat) (h : c0 < 256) (h1 : c1 < 256) (h2 : c2 < 256) (h3 : c3 < 256) : (c0 + 256 * (c1 + 256 * (c2 + 256 * (c3 + 256 * (c4 + 256 * (c5 + 256 * (c6 + 256 * (c7)))))))) + (c0 + 256 * (c1 + 256 * (c2 + 256 * (c3 + 256 * (c4 + 256 * (c5 + 256 * (c6 + 256 * (c7)))))))) / 4294967296 = (c0 + c4) + 256 * ((c1 + c5) + 256 * ((c2 + c6) + 256 * ((c3 + c7) + 256 * (c4 + 256 * (c5 + 256 * (c6 + 256 * (c7))))))) := by
  rw [d4 _ _ _ _ _ h h1 h2 h3]
  simp only [add_b]
  rw [add_l]
theorem cb_ (c0 c1 c2 c3 c4 c5 c6 c7 : Nat) (b0 : c0 ≤ 8) (b1 : c1 ≤ 8) (b2 : c2 ≤ 8) (b3 : c3 ≤ 8) (b4 : c4 ≤ 8) (b5 : c5 ≤ 8) (b6 : c6 ≤ 8) (b7 : c7 ≤ 8) : (c0 < 256 ∧ c1 < 256 ∧ c2 < 256 ∧ c3 < 256 ∧ c4 < 256 ∧ c5 < 256 ∧ c6 < 256) ∧ (c7 < 16) := ⟨⟨(by omega), (by omega), (by omega), (by omega), (by omega), (by omega), (by omega)⟩, (by omega)⟩
theorem zb_ (c0 c1 c2 c3 c4 c5 c6 c7 : Nat) (b0 : c0 ≤ 8) (b1 : c1 ≤ 8) (b2 : c2 ≤ 8) (b3 : c3 ≤ 8) (b4 : c4 ≤ 8) (b5 : c5 ≤ 8) (b6 : c6 ≤ 8) (b7 : c7 ≤ 8) : ((c0 + c1) < 256 ∧ (c1 + c2) < 256 ∧ (c2 + c3) < 256 ∧ (c3 + c4) < 256 ∧ (c4 + c5) < 256 ∧ (c5 + c6) < 256 ∧ (c6 + c7) < 256) ∧ (c7 < 16) := ⟨⟨(by omega), (by omega), (by omega), (by omega), (by omega), (by omega), (by omega)⟩, (by omega)⟩
theorem yb_ (c0 c1 c2 c3 c4 c5 c6 c7 : Nat) (b0 : c0 ≤ 8) (b1 : c1 ≤ 8) (b2 : c2 ≤ 8) (b3 : c3 ≤ 8) (b4 : c4 ≤ 8) (b5 : c5 ≤ 8) (b6 : c6 ≤ 8) (b7 : c7 ≤ 8) : (((c0 + c1) + (c2 + c3)) < 256 ∧ ((c1 + c2) + (c3 + c4)) < 256 ∧ ((c2 + c3) + (c4 + c5)) < 256 ∧ ((c3 + c4) + (c5 + c6)) < 256 ∧ ((c4 + c5) + (c6 + c7)) < 256 ∧ ((c5 + c6) + c7) < 256 ∧ (c6 + c7) < 256) ∧ (c7 < 16) := ⟨⟨(by omega), (by omega), (by omega), (by omega), (by omega), (by omega), (by omega)⟩, (by omega)⟩
theorem xb_ (c0 c1 c2 c3 c4 c5 c6 c7 : Nat) (b0 : c0 ≤ 8) (b1 : c1 ≤ 8) (b2 : c2 ≤ 8) (b3 : c3 ≤ 8) (b4 : c4 ≤ 8) (b5 : c5 ≤ 8) (b6 : c6 ≤ 8) (b7 : c7 ≤ 8) : ((((c0 + c1) + (c2 + c3)) + ((c4 + c5) + (c6 + c7))) < 256 ∧ (((c1 + c2) + (c3 + c4)) + ((c5 + c6) + c7)) < 256 ∧ (((c2 + c3) + (c4 + c5)) + (c6 + c7)) < 256 ∧ (((c3 + c4) + (c5 + c6)) + c7) < 256 ∧ ((c4 + c5) + (c6 + c7)) < 256 ∧ ((c5 + c6) + c7) < 256 ∧ (c6 + c7) < 256) ∧ (c7 < 16) := ⟨⟨(by omega), (by omega), (by omega), (by omega), (by omega), (by omega), (by omega)⟩, (by omega)⟩
theorem hsum_ (c0 c1 c2 c3 c4 c5 c6 c7 : Nat) (b0 : c0 ≤ 8) (b1 : c1 ≤ 8) (b2 : c2 ≤ 8) (b3 : c3 ≤ 8) (b4 : c4 ≤ 8) (b5 : c5 ≤ 8) (b6 : c6 ≤ 8) (b7 : c7 ≤ 8) : ((((c0 + c1) + (c2 + c3)) + ((c4 + c5) + (c6 + c7))) = c0 + c1 + c2 + c3 + c4 + c5 + c6 + c7) ∧ ((((c0 + c1) + (c2 + c3)) + ((c4 + c5) + (c6 + c7))) < 128) := ⟨by omega, by omega⟩
theorem pop_456 (c0 c1 c2 c3 c4 c5 c6 c7 p3 : Nat) (b0 : c0 ≤ 8) (b1 : c1 ≤ 8) (b2 : c2 ≤ 8) (b3 : c3 ≤ 8) (b4 : c4 ≤ 8) (b5 : c5 ≤ 8) (b6 : c6 ≤ 8) (b7 : c7 ≤ 8)
    (he : p3 = c0 + 256 * (c1 + 256 * (c2 + 256 * (c3 + 256 * (c4 + 256 * (c5 + 256 * (c6 + 256 * (c7)))))))) :
    ∃ p4 p5 p6, p4 = p3 + p3 / 256 ∧ p5 = p4 + p4 / 65536 ∧ p6 = p5 + p5 / 4294967296 ∧ p3 < 1152921504606846976 ∧ p4 < 1152921504606846976 ∧ p5 < 1152921504606846976 ∧ p6 < 2305843009213693952 ∧ p6 % 128 = c0 + c1 + c2 + c3 + c4 + c5 + c6 + c7 := by
  subst he
  have cb := cb_ c0 c1 c2 c3 c4 c5 c6 c7 b0 b1 b2 b3 b4 b5 b6 b7
  have zb := zb_ c0 c1 c2 c3 c4 c5 c6 c7 b0 b1 b2 b3 b4 b5 b6 b7
  have yb := yb_ c0 c1 c2 c3 c4 c5 c6 c7 b0 b1 b2 b3 b4 b5 b6 b7
  have xb := xb_ c0 c1 c2 c3 c4 c5 c6 c7 b0 b1 b2 b3 b4 b5 b6 b7
  obtain ⟨hsum, hs7⟩ := hsum_ c0 c1 c2 c3 c4 c5 c6 c7 b0 b1 b2 b3 b4 b5 b6 b7
  have f4 := e4_ c0 c1 c2 c3 c4 c5 c6 c7 cb.1.1
  have f5 := e5_ (c0 + c1) (c1 + c2) (c2 + c3) (c3 + c4) (c4 + c5) (c5 + c6) (c6 + c7) c7 zb.1.1 zb.1.2.1
  have f6 := e6_ ((c0 + c1) + (c2 + c3)) ((c1 + c2) + (c3 + c4)) ((c2 + c3) + (c4 + c5)) ((c3 + c4) + (c5 + c6)) ((c4 + c5) + (c6 + c7)) ((c5 + c6) + c7) (c6 + c7) c7 yb.1.1 yb.1.2.1 yb.1.2.2.1 yb.1.2.2.2.1
  refine ⟨_, _, _, rfl, rfl, rfl, ?_⟩
  rw [f4, f5, f6]
  exact ⟨byte8 cb.1.1 cb.1.2.1 cb.1.2.2.1 cb.1.2.2.2.1 cb.1.2.2.2.2.1 cb.1.2.2.2.2.2.1 cb.1.2.2.2.2.2.2 cb.2, byte8 zb.1.1 zb.1.2.1 zb.1.2.2.1 zb.1.2.2.2.1 zb.1.2.2.2.2.1 zb.1.2.2.2.2.2.1 zb.1.2.2.2.2.2.2 zb.2, byte8 yb.1.1 yb.1.2.1 yb.1.2.2.1 yb.1.2.2.2.1 yb.1.2.2.2.2.1 yb.1.2.2.2.2.2.1 yb.1.2.2.2.2.2.2 yb.2, Nat.lt_trans (byte8 xb.1.1 xb.1.2.1 xb.1.2.2.1 xb.1.2.2.2.1 xb.1.2.2.2.2.1 xb.1.2.2.2.2.2.1 xb.1.2.2.2.2.2.2 xb.2) (show 1152921504606846976 < 2305843009213693952 from by omega), (m1 _ _ hs7).trans hsum⟩
end Go.Proofs.YtnejacmmbfeneaaDoor

import Derived.Test.YtmllpapkgfclkaaTpRf
namespace Go.Proofs.Ytmllpapkgfclkaa
open Go.RowKit

/-! ## Travel times -/
/-- The travel time of edge i. -/
def ttA (times : List Int) (i : Nat) : Int := match times[i]? with
  | none => INF
  | some v => if v < 1 ∨ 1048576 < v then INF else v
def ttL (times : List Int) (m : Nat) : List Int := (List.range m).map (ttA times)
theorem ttA_ok (times : List Int) (i : Nat) : ttA times i ≠ INF → 1 ≤ ttA times i ∧ ttA times i ≤ 1048576 := by
  unfold ttA
  split
  · intro h; exact absurd rfl h
  · split
    · intro h; exact absurd rfl h
    · intro _; omega
set_option maxRecDepth 100000 in
set_option maxHeartbeats 4000000 in
theorem travelTime_any (w : World) (ta : Option Addr) (tc : Nat) (times : List Int) (ht : Sl w (fun _ => False) 1 ta times.length (icellsC times)) (_hl : times.length ≤ 16384) (i : Nat) :
    Calls Try.prog 27 #[.slice ta times.length tc, .int .i64 i] w fun e w' => e = .returned (.int .i64 (ttA times i)) ∧ w = w' := by
  have hi0 : (0 : Int) ≤ (i : Int) := Int.natCast_nonneg _
  rcases Nat.lt_or_ge i times.length with hi | hi
  · obtain ⟨v, hv⟩ := get_some hi
    obtain ⟨b1, o1, rfl, hb1, x0⟩ := ints_at ht hv
    have HE := hid (show ttA times i = if v < 1 ∨ 1048576 < v then INF else v from by unfold ttA; rw [hv])
    have hi1 : (i : Int) < (times.length : Int) := by omega
    have hi2 : ¬ times.length ≤ i := by omega
    clear hv ht
    by_cases h1 : v < 1
    · go_enter Try.func27, Try.ntmps27
      go_wp2_with fail
      go_ret
      refine ⟨?_, rfl⟩
      rw [HE.out, if_pos (Or.inl h1)]; rfl
    · by_cases h2 : v > 1048576
      · go_enter Try.func27, Try.ntmps27
        go_wp2_with fail
        go_ret
        refine ⟨?_, rfl⟩
        rw [HE.out, if_pos (Or.inr h2)]; rfl
      · go_enter Try.func27, Try.ntmps27
        go_wp2_with fail
        go_ret
        refine ⟨?_, rfl⟩
        rw [HE.out, if_neg (by omega)]; rfl
  · have hn : times[i]? = none := List.getElem?_eq_none hi
    have HE := hid (show ttA times i = INF from by unfold ttA; rw [hn])
    have hi1 : (times.length : Int) ≤ (i : Int) := by omega
    clear hn ht
    go_enter Try.func27, Try.ntmps27
    go_wp2_with fail
    go_ret
    exact ⟨by rw [HE.out]; rfl, rfl⟩
theorem edges_any (w : World) (g N : Nat) (l : List E3) (E : Option Addr) (cE po pi : Nat) (hG : IsG w g N l E cE po pi) (_hl : l.length ≤ 16384) :
    Calls Try.prog 18 #[.pointer (some ⟨g, 0, none⟩)] w fun e w' => e = .returned (.int .i64 l.length) ∧ w = w' := by
  have c0 : w.cell? ⟨g, 0, none⟩ = some (.slice E l.length cE) := (hG.hdr.at_ 0).trans rfl
  clear hG
  go_enter Try.func18, Try.ntmps18
  go_wp2_with fail
  go_ret
  exact ⟨rfl, rfl⟩
/-- A row of int64 of one's own. -/
def TT (w : World) (ws : List Int) (e : Ending) (w' : World) : Prop := ∃ R, e = .returned (.slice (some ⟨R, 0, none⟩) ws.length ws.length) ∧ Blk w' R 2 (icellsC ws).toArray ∧ Same w w' ∧ w.heap.size ≤ R
def part (f : Nat → Int) (m k : Nat) : List Value := (List.range m).map fun i => .int .i64 (if i < k then f i else 0)
theorem part_len (f : Nat → Int) (m k : Nat) : (part f m k).length = m := by simp [part]
theorem part_at (f : Nat → Int) (m k i : Nat) (h : i < m) : (part f m k)[i]? = some (.int .i64 (if i < k then f i else 0)) := by simp [part, h]
theorem part_zero (f : Nat → Int) (m : Nat) : part f m 0 = List.replicate m (.int .i64 0) := by
  unfold part
  rw [show (fun i : Nat => Value.int .i64 (if i < 0 then f i else 0)) = fun _ => .int .i64 0 from by funext i; simp, List.map_const', List.length_range]
theorem part_set (f : Nat → Int) (m k : Nat) (h : k < m) : (part f m k).set k (.int .i64 (f k)) = part f m (k + 1) := by
  apply List.ext_getElem?
  intro i
  rw [List.getElem?_set]
  rcases Nat.lt_or_ge i m with hi | hi
  · by_cases e : k = i
    · subst e
      rw [if_pos rfl, if_pos (by rw [part_len]; exact h), part_at _ _ _ _ hi]; simp
    · rw [if_neg e, part_at _ _ _ _ hi, part_at _ _ _ _ hi]
      by_cases h2 : i < k
      · rw [if_pos h2, if_pos (by omega)]
      · rw [if_neg h2, if_neg (by omega)]
  · have h1 : (part f m k)[i]? = none := List.getElem?_eq_none (by rw [part_len]; exact hi)
    have h2 : (part f m (k + 1))[i]? = none := List.getElem?_eq_none (by rw [part_len]; exact hi)
    rw [h1, h2]
    by_cases e : k = i
    · omega
    · rw [if_neg e]
theorem part_all (f : Nat → Int) (m : Nat) : part f m m = icellsC ((List.range m).map f) := by
  unfold part icellsC
  rw [List.map_map]
  refine List.map_congr_left fun i hi => ?_
  rw [if_pos (List.mem_range.1 hi)]; rfl
theorem infoW : (Try.prog.info? 2).map (fun i => (i.zero, i.size, i.bytes)) = some (some (.int .i64 0), 1, 8) := by kernel_rfl
set_option maxRecDepth 100000 in
set_option maxHeartbeats 4000000 in
theorem travelTimes_any (w : World) (g N : Nat) (l : List E3) (E : Option Addr) (cE po pi : Nat) (hG : IsG w g N l E cE po pi) (hl : l.length ≤ 16384) (ta : Option Addr) (tc : Nat) (times : List Int) (ht : Sl w (fun _ => False) 1 ta times.length (icellsC times)) (htl : times.length ≤ 16384) :
    Calls Try.prog 22 #[.pointer (some ⟨g, 0, none⟩), .slice ta times.length tc] w (TT w (ttL times l.length)) := by
  have HED := hid (edges_any w g N l E cE po pi hG hl)
  have HT := hid ht
  have hmk := fun W => EI64.make .i64 .i64 l.length l.length (by omega) (by omega) (by omega) (by omega) W
  have hlen : (ttL times l.length).length = l.length := by simp [ttL]
  obtain ⟨m, hm⟩ : ∃ m, m = l.length := ⟨_, rfl⟩
  rw [← hm] at hlen hmk hl
  have HM := hid hm
  have HLN := hid hlen
  clear hG ht hm hlen
  have HED2 := hid (show Calls Try.prog 18 #[.pointer (some ⟨g, 0, none⟩)] w fun e w' => e = .returned (.int .i64 m) ∧ w = w' from by rw [HM.out]; exact HED.out)
  go_enter Try.func22, Try.ntmps22
  go_wp2_with (go_at_call 18; (with_reducible refine HED2.out.mono ?_); rintro e w2 ⟨rfl, rfl⟩)
  have hb0 := Blk.made w 2 (part (ttA times) m 0).toArray
  have hk0 := (Keep.refl (fun _ => False) w).alloc (.cells (part (ttA times) m 0).toArray 2)
  have e0 : (madeCells #[.int .i64 0] m) = (part (ttA times) m 0).toArray := by
    rw [← Array.toList_inj, toList_madeCells_one, part_zero]
  rw [e0]
  clear e0 hmk
  generalize w.alloc (.cells (part (ttA times) m 0).toArray 2) = W0 at *
  obtain ⟨R, hR⟩ : ∃ R, R = w.heap.size := ⟨_, rfl⟩
  rw [← hR] at hb0 ⊢
  have HB0 := hid hb0
  have HK0 := hid (hk0.wide (T := (· = R)) (fun _ _ f => f.elim))
  have HR := hid hR
  clear hb0 hk0 hR
  go_loopw [12] (fun i wr => ∃ k : Nat, k ≤ m ∧ i = .int .i64 k ∧ Hid (Blk wr R 2 (part (ttA times) m k).toArray ∧ Keep (· = R) w wr)) (fun i _ => m - (RowKit.intOf i).toNat)
  case atStart => exact ⟨0, Nat.zero_le _, rfl, hid ⟨HB0.out, HK0.out⟩⟩
  case round =>
    obtain ⟨k, hk, rfl, HL⟩ := hrel
    clear HB0 HK0
    by_cases hkn : k < m
    · have hk0 : (0 : Int) ≤ (k : Int) := Int.natCast_nonneg _
      have hk1 : (k : Int) < (m : Int) := by omega
      have cr : wr.cell? ⟨R, k, none⟩ = some (.int .i64 0) := (HL.out.1.at_ k).trans (by rw [List.getElem?_toArray, part_at _ _ _ _ hkn, if_neg (by omega)])
      have fr := HL.out.1.free k
      have HTV := hid (travelTime_any wr ta tc times (HT.out.same (HL.out.2.wide (T := fun _ => False) (fun i hi e => by have := HR.out; have : i = R := e; omega))) htl k)
      go_wp2_with (go_at_call 27; (with_reducible refine HTV.out.mono ?_); rintro e w2 ⟨rfl, rfl⟩)
      go_round
      case rel =>
        refine ⟨k + 1, by omega, by go_num, hid ⟨?_, HL.out.2.put k _⟩⟩
        have := HL.out.1.put k (.int .i64 (ttA times k))
        rw [List.setIfInBounds_toArray, part_set _ _ _ hkn] at this
        exact this
      case measure => simp [RowKit.intOf]; omega
    · have hke : m = k := by omega
      subst hke
      go_wp2_with fail
      go_ret
      refine ⟨R, by rw [← HM.out, HLN.out]; rfl, ?_, HL.out.2.wide (fun i hi e => by have := HR.out; have : i = R := e; omega), by have := HR.out; omega⟩
      have := HL.out.1
      rw [part_all] at this
      rw [ttL, ← HM.out]
      exact this
/-! ## From, Verify -/
theorem row_sl {w : World} {R : Nat} {xs : List Value} {n : Nat} (h : Blk w R 2 xs.toArray) (hn : xs.length = n) : Sl w (fun _ => False) 1 (some ⟨R, 0, none⟩) n xs := by
  have := Sl.of_blk (size := 1) (n := n) (Av := fun _ => False) h (by simp [hn]) (fun f => f)
  simpa using this
def distI (N : Nat) (D : Nat → Int) : List Int := (List.range N).map D
theorem distI_cells (N : Nat) (D : Nat → Int) : icellsC (distI N D) = distL N D := by
  unfold icellsC distI distL
  rw [List.map_map]; rfl
theorem distI_len (N : Nat) (D : Nat → Int) : (distI N D).length = N := by simp [distI]
theorem wg_ok {N : Nat} {l : List E3} {ws : List Int} {Wm : Int} (hok : ∀ e ∈ l, (0 ≤ e.a ∧ e.a < N) ∧ (0 ≤ e.b ∧ e.b < N)) (hw : ∀ i : Nat, i < l.length → ∀ v, ws[i]? = some v → v ≠ INF → 1 ≤ v ∧ v ≤ Wm) (h1 : 1 ≤ Wm) (h2 : Wm * N < 1125899906842624) : (wgF N l ws).Ok Wm ∧ (wgB N l ws).Ok Wm := by
  have ha : ∀ i, i < l.length → ((l[i]?.map E3.a).getD 0).toNat < N := fun i hi => by
    obtain ⟨e, he⟩ := get_some hi
    have := hok e (List.mem_of_getElem? he)
    rw [he]
    show (E3.a e).toNat < N
    omega
  have hb : ∀ i, i < l.length → ((l[i]?.map E3.b).getD 0).toNat < N := fun i hi => by
    obtain ⟨e, he⟩ := get_some hi
    have := hok e (List.mem_of_getElem? he)
    rw [he]
    show (E3.b e).toNat < N
    omega
  have hc : ∀ i, i < l.length → ws[i]?.getD INF ≠ INF → 1 ≤ ws[i]?.getD INF ∧ ws[i]?.getD INF ≤ Wm := fun i hi h => by
    cases hv : ws[i]? with
    | none => rw [hv] at h; exact absurd rfl h
    | some v => rw [hv] at h; exact hw i hi v hv h
  exact ⟨⟨ha, hb, hc, h1, h2⟩, ⟨hb, ha, hc, h1, h2⟩⟩
theorem ttL_at {times : List Int} {m i : Nat} {v : Int} (h : (ttL times m)[i]? = some v) : v = ttA times i := by
  have hi := (List.getElem?_eq_some_iff.1 h).1
  have hi2 : i < m := by simpa [ttL] using hi
  have : (ttL times m)[i]? = some (ttA times i) := by simp [ttL, hi2]
  rw [this] at h
  injection h with h
  exact h.symm
theorem tt_ok {N : Nat} {l : List E3} (times : List Int) (hN : N ≤ 8) (hok : ∀ e ∈ l, (0 ≤ e.a ∧ e.a < N) ∧ (0 ≤ e.b ∧ e.b < N)) : (wgF N l (ttL times l.length)).Ok 1048576 :=
  (wg_ok hok (fun i _ v hv hne => by
    have := ttL_at hv
    subst this
    exact ttA_ok times i hne) (by omega) (by omega)).1
set_option maxRecDepth 100000 in
set_option maxHeartbeats 4000000 in
theorem from_any (w : World) (g N : Nat) (l : List E3) (E : Option Addr) (cE po pi : Nat) (hG : IsG w g N l E cE po pi) (hN : N ≤ 8) (hl : l.length ≤ 16384) (hok : ∀ e ∈ l, (0 ≤ e.a ∧ e.a < N) ∧ (0 ≤ e.b ∧ e.b < N))
    (ta : Option Addr) (tc : Nat) (times : List Int) (ht : Sl w (fun _ => False) 1 ta times.length (icellsC times)) (htl : times.length ≤ 16384)
    (ea : Option Addr) (ec s0 : Nat) (hs0 : s0 < N) (hea : Sl w (fun _ => False) 1 ea 1 (icellsC [(s0 : Int)])) :
    Calls Try.prog 10 #[.pointer (some ⟨g, 0, none⟩), .slice ta times.length tc, .slice ea 1 ec] w (SearchF w N s0 (wgF N l (ttL times l.length))) := by
  have HTT := hid (travelTimes_any w g N l E cE po pi hG hl ta tc times ht htl)
  have hlen : (ttL times l.length).length = l.length := by simp [ttL]
  have HSE := hid (fun (w2 : World) (R : Nat) (hk : Same w w2) (hb : Blk w2 R 2 (icellsC (ttL times l.length)).toArray) => searchF_any w2 g N l E cE po pi (hG.same hk) hN hl hok (some ⟨R, 0, none⟩) l.length (ttL times l.length) (row_sl hb (by simp [icellsC, ttL])) 1048576 (tt_ok times hN hok) (by omega) ea ec s0 hs0 (hea.same hk))
  have HLN := hid hlen
  clear hG hok ht hea hlen
  go_enter Try.func10, Try.ntmps10
  go_wp2_with (first
    | (go_at_call 22; (with_reducible refine HTT.out.mono ?_); rintro e w2 ⟨R, rfl, hb2, hk2, hR2⟩; have HB2 := hid hb2; have HK2 := hid hk2; have HR2 := hid hR2; have HS2 := hid (HSE.out w2 R hk2 hb2); clear hb2 hk2 hR2; rw [HLN.out])
    | (go_at_call 21; (with_reducible refine HS2.out.mono ?_); rintro e w3 ⟨R3, D3, rfl, hb3, hd3, hk3, hR3⟩; have HB3 := hid hb3; have HK3 := hid hk3; have HD3 := hid hd3; have HR3 := hid hR3; clear hb3 hk3 hd3 hR3))
  go_ret
  exact ⟨R3, D3, rfl, HB3.out, HD3.out, HK2.out.then HK3.out, Nat.le_trans HK2.out.size HR3.out⟩
set_option maxRecDepth 100000 in
set_option maxHeartbeats 4000000 in
theorem equalI_any (w : World) (A B : Option Addr) (cA cB : Nat) (xs : List Int) (n : Nat) (hn : xs.length = n) (hn2 : n ≤ 16384) (hA : Sl w (fun _ => False) 1 A n (icellsC xs)) (hB : Sl w (fun _ => False) 1 B n (icellsC xs)) :
    Calls Try.prog 23 #[.slice A n cA, .slice B n cB] w fun e w' => e = .returned (.bool true) ∧ Same w w' := by
  have HA := hid hA
  have HB := hid hB
  have HN := hid hn
  clear hA hB hn
  go_enter Try.func23, Try.ntmps23
  go_wp2_with fail
  go_loopw [13] (fun i wr => ∃ k : Nat, k ≤ n ∧ i = .int .i64 k ∧ Hid (Same w wr)) (fun i _ => n - (RowKit.intOf i).toNat)
  case atStart => exact ⟨0, Nat.zero_le _, rfl, hid (Keep.refl _ _)⟩
  case round =>
    obtain ⟨k, hk, rfl, HL⟩ := hrel
    by_cases hkn : k < n
    · obtain ⟨v, hv⟩ := get_some (l := xs) (k := k) (by have := HN.out; omega)
      obtain ⟨b1, o1, rfl, hb1, x0⟩ := ints_at (HA.out.same HL.out) hv
      obtain ⟨b2, o2, rfl, hb2, y0⟩ := ints_at (HB.out.same HL.out) hv
      have hk0 : (0 : Int) ≤ (k : Int) := Int.natCast_nonneg _
      have hk1 : (k : Int) < (n : Int) := by omega
      clear hv
      go_upto_region 6 with fail
      go_quiet (fail)
      go_wp2_with fail
      go_round
      case rel => exact ⟨k + 1, by omega, by go_num, hid (HL.out.drewN _)⟩
      case measure => simp [RowKit.intOf]; omega
    · have hke : n = k := by omega
      subst hke
      go_wp2_with fail
      go_ret
      exact ⟨rfl, HL.out⟩
set_option maxRecDepth 100000 in
set_option maxHeartbeats 4000000 in
theorem verify_any (w : World) (g N : Nat) (l : List E3) (E : Option Addr) (cE po pi : Nat) (hG : IsG w g N l E cE po pi) (hN : N ≤ 8) (hl : l.length ≤ 16384) (hok : ∀ e ∈ l, (0 ≤ e.a ∧ e.a < N) ∧ (0 ≤ e.b ∧ e.b < N))
    (ta : Option Addr) (tc : Nat) (times : List Int) (ht : Sl w (fun _ => False) 1 ta times.length (icellsC times)) (htl : times.length ≤ 16384)
    (ea : Option Addr) (ec s0 : Nat) (hs0 : s0 < N) (hea : Sl w (fun _ => False) 1 ea 1 (icellsC [(s0 : Int)]))
    (R : Nat) (D : Nat → Int) (hR : Blk w R 2 (distL N D).toArray) (hD : IsDist (wgF N l (ttL times l.length)) s0 D) :
    Calls Try.prog 11 #[.pointer (some ⟨g, 0, none⟩), .slice ta times.length tc, .slice ea 1 ec, .slice (some ⟨R, 0, none⟩) N N] w fun e w' => e = .returned (.bool true) ∧ Same w w' := by
  have HFR := hid (from_any w g N l E cE po pi hG hN hl hok ta tc times ht htl ea ec s0 hs0 hea)
  have HEQ := hid (fun (w2 : World) (R2 : Nat) (D2 : Nat → Int) (hk : Same w w2) (hb : Blk w2 R2 2 (distL N D2).toArray) (hd : IsDist (wgF N l (ttL times l.length)) s0 D2) => by
    have e : distL N D2 = distL N D := distL_ext (fun v hv => hd.uniq (tt_ok times hN hok) hD hv)
    rw [e] at hb
    exact equalI_any w2 (some ⟨R, 0, none⟩) (some ⟨R2, 0, none⟩) N N (distI N D) N (distI_len N D) (by omega) (by rw [distI_cells]; exact row_sl (hR.keep hk (fun f => f)) (distL_len N D)) (by rw [distI_cells]; exact row_sl hb (distL_len N D)))
  clear hG hok ht hea hR hD
  go_enter Try.func11, Try.ntmps11
  go_wp2_with (first
    | (go_at_call 10; (with_reducible refine HFR.out.mono ?_); rintro e w2 ⟨R2, D2, rfl, hb2, hd2, hk2, hR2⟩; have HK2 := hid hk2; have HE2 := hid (HEQ.out w2 R2 D2 hk2 hb2 hd2); clear hb2 hk2 hR2 hd2)
    | (go_at_call 23; (with_reducible refine HE2.out.mono ?_); rintro e w3 ⟨rfl, hk3⟩; have HK3 := hid hk3; clear hk3))
  go_ret
  exact ⟨rfl, HK2.out.then HK3.out⟩
end Go.Proofs.Ytmllpapkgfclkaa

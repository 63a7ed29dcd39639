import Derived.Test.YtmllpapkgfclkaaTpT
namespace Go.Proofs.Ytmllpapkgfclkaa
open Go.RowKit

/-! ## A table of travel times -/
structure TT0 (w0 w : World) (base t g m pb : Nat) (chv : Value) (cs : List E3) (V : List Value) (L : List (List E3)) : Prop where
  same : Same w0 w
  hdr : Blk w t 55 #[.pointer (some ⟨g, 0, none⟩), chv, .slice (some ⟨pb, 0, none⟩) m m]
  own : Own w base 33 3 chv cs.length (e3cells cs)
  tbl : TbC w base pb V L
  lenL : L.length = m
  ap : ∀ (h : Nat) (v : Value), V[h]? = some v → ∀ x, v.ownBlock = some x → chv.ownBlock ≠ some x
  t0 : w0.heap.size ≤ t
  p0 : w0.heap.size ≤ pb
  tb : t < base
  pbb : pb < base
  tp : t ≠ pb
  top : base ≤ w.heap.size
section
variable {w0 w w1 w7 : World} {base t g m pb k : Nat} {chv v v' : Value} {cs : List E3} {V : List Value} {L : List (List E3)} {l : List E3} {c : E3}
theorem TT0.more (h : TT0 w0 w base t g m pb chv cs V L) (hk : Same w w1) : TT0 w0 w1 base t g m pb chv cs V L :=
  ⟨h.same.then hk, h.hdr.keep hk (fun f => f), h.own.keep hk (fun _ _ _ f => f), h.tbl.same hk, h.lenL, h.ap, h.t0, h.p0, h.tb, h.pbb, h.tp, Nat.le_trans h.top hk.size⟩
/-- A change is added to the list of all. -/
theorem TT0.push (h : TT0 w0 w base t g m pb chv cs V L) (hg : w.grownBy w7 chv.ownBlock) (ho : Own w7 base 33 3 v' (cs ++ [c]).length (e3cells (cs ++ [c]))) (hw : v'.ownBlock = chv.ownBlock ∨ ∃ g, v'.ownBlock = some g ∧ w.heap.size ≤ g) :
    TT0 w0 (w7.setCell ⟨t, 1, none⟩ v') base t g m pb v' (cs ++ [c]) V L := by
  have hb := fun x e => h.own.block x e
  have hG : Keep (fun i => chv.ownBlock = some i) w w7 := (Keep.refl _ _).grown hg (fun x e _ => e)
  have hP : Keep (· = t) w7 (w7.setCell ⟨t, 1, none⟩ v') := (Keep.refl (· = t) w7).put _ _
  have ht := h.hdr.lt
  have htb := h.tb
  have hpb := h.pbb
  have hs0 := h.same.size
  have ht0 := h.t0
  have hlo : w0.heap.size ≤ base := by omega
  refine ⟨?_, ?_, ?_, ?_, h.lenL, ?_, h.t0, h.p0, h.tb, h.pbb, h.tp, Nat.le_trans h.top (Nat.le_trans hG.size hP.size)⟩
  · exact (h.same.trans hG (fun i hi e => by have := hb i e; omega)).trans hP (fun i hi e => by have e2 : i = t := e; omega)
  · have := (h.hdr.keep hG (fun e => by have := hb _ e; omega)).put 1 v'
    simpa using this
  · exact ho.keepB hP (fun x e e2 => by
      have e3 : x = t := e2
      subst e3
      have := ho.block x e
      omega)
  · refine (h.tbl.keep hG (fun e => by have := hb _ e; omega) (fun i v hv x e e2 => h.ap i v hv x e e2)).keep hP (fun e => h.tp (show pb = t from e).symm) (fun i v hv x e e2 => ?_)
    have := (h.tbl.blocks hv x e).1
    have e3 : x = t := e2
    omega
  · intro i v hv x e e2
    rcases hw with q | ⟨g', q, hq⟩
    · exact h.ap i v hv x e (q ▸ e2)
    · rw [q] at e2; injection e2 with e2
      have := (h.tbl.blocks hv x e).2
      omega
/-- A change is added to its edge's list. -/
theorem TT0.row (h : TT0 w0 w base t g m pb chv cs V L) (hv : V[k]? = some v) (hl : L[k]? = some l) (hg : w.grownBy w7 v.ownBlock) (ho : Own w7 base 33 3 v' (l ++ [c]).length (e3cells (l ++ [c]))) (hw : v'.ownBlock = v.ownBlock ∨ ∃ g, v'.ownBlock = some g ∧ w.heap.size ≤ g) :
    TT0 w0 (w7.setCell ⟨pb, k, none⟩ v') base t g m pb chv cs (V.set k v') (L.set k (l ++ [c])) := by
  have hb := fun x e => (h.tbl.blocks hv x e).1
  have hG : Keep (fun i => v.ownBlock = some i) w w7 := (Keep.refl _ _).grown hg (fun x e _ => e)
  have hP : Keep (· = pb) w7 (w7.setCell ⟨pb, k, none⟩ v') := (Keep.refl (· = pb) w7).put _ _
  have ht := h.hdr.lt
  have htb := h.tb
  have hpb := h.pbb
  have hs0 := h.same.size
  have ht0 := h.t0
  have hp0 := h.p0
  refine ⟨?_, ?_, ?_, h.tbl.add hv hl hg ho hw, by rw [List.length_set]; exact h.lenL, ?_, h.t0, h.p0, h.tb, h.pbb, h.tp, Nat.le_trans h.top (Nat.le_trans hG.size hP.size)⟩
  · exact (h.same.trans hG (fun i hi e => by have := hb i e; omega)).trans hP (fun i hi e => by have e2 : i = pb := e; omega)
  · exact (h.hdr.keep hG (fun e => by have := hb _ e; omega)).keep hP (fun e => h.tp e)
  · exact (h.own.keepB hG (fun x e e2 => h.ap k v hv x e2 e)).keepB hP (fun x e e2 => by
      have e3 : x = pb := e2
      subst e3
      have := h.own.block x e
      omega)
  · intro i u hu x e
    rw [List.getElem?_set] at hu
    by_cases e1 : k = i
    · rw [if_pos e1] at hu
      split at hu
      · cases hu
        rcases hw with q | ⟨g', q, hq⟩
        · exact h.ap k v hv x (q ▸ e)
        · rw [q] at e; injection e with e
          intro e2
          have := h.own.lt x e2
          omega
      · cases hu
    · rw [if_neg e1] at hu
      exact h.ap i u hu x e
end
def NewPost (w : World) (g m : Nat) (e : Ending) (w' : World) : Prop := ∃ base t pb, e = .returned (.pointer (some ⟨t, 0, none⟩)) ∧ TT0 w w' base t g m pb (.slice none 0 0) [] (List.replicate m (.slice none 0 0)) (List.replicate m [])
set_option maxRecDepth 100000 in
theorem ttnew_any (w : World) (g N : Nat) (l : List E3) (E : Option Addr) (cE po pi : Nat) (hG : IsG w g N l E cE po pi) (hl : l.length ≤ 16384) :
    Calls Try.prog 7 #[.pointer (some ⟨g, 0, none⟩)] w (NewPost w g l.length) := by
  have HED := hid (edges_any w g N l E cE po pi hG hl)
  have hmk := fun W => EChs.make .i64 .i64 l.length l.length (by omega) (by omega) (by omega) (by omega) W
  obtain ⟨m, hm⟩ : ∃ m, m = l.length := ⟨_, rfl⟩
  rw [← hm] at hmk HED ⊢
  clear hG hm
  go_enter Try.func7, Try.ntmps7
  go_wp2_with (go_at_call 18; (with_reducible refine HED.out.mono ?_); rintro e w2 ⟨rfl, rfl⟩)
  go_ret
  have e : (madeCells #[.slice none 0 0] m) = (List.replicate m (Value.slice none 0 0)).toArray := by
    rw [← Array.toList_inj, toList_madeCells_one]
  rw [e]
  have t1 := TbC.made w (w.heap.size + 1 + 1) m
  have hb := Blk.made (w.alloc (.cells (List.replicate m (Value.slice none 0 0)).toArray 23)) 55 #[.pointer (some ⟨g, 0, none⟩), .slice none 0 0, .slice (some ⟨w.heap.size, 0, none⟩) m m]
  rw [World.size_alloc] at hb
  refine ⟨w.heap.size + 1 + 1, w.heap.size + 1, w.heap.size, rfl, ((Keep.refl _ _).alloc _).alloc _, hb, Own.nil _ _ _ _, t1.same ((Keep.refl _ _).alloc _), by simp, ?_, by omega, by omega, by omega, by omega, by omega, by simp⟩
  intro h v hv x hx
  rw [rep_some hv] at hx
  simp [Value.ownBlock] at hx
def vB (m : Nat) (c : E3) : Prop := 0 ≤ c.b ∧ c.b < m
set_option maxRecDepth 100000 in
theorem valid_any {w0 w : World} {base t g m pb : Nat} {chv : Value} {cs : List E3} {V : List Value} {L : List (List E3)} (h : TT0 w0 w base t g m pb chv cs V L) (c : E3) :
    Calls Try.prog 19 #[.pointer (some ⟨t, 0, none⟩), .agg #[.int .i64 c.a, .int .i64 c.b, .int .i64 c.c]] w fun e w' => (∃ b, e = .returned (.bool b) ∧ (b = true → vB m c)) ∧ Same w w' := by
  have c2 : w.cell? ⟨t, 2, none⟩ = some (.slice (some ⟨pb, 0, none⟩) m m) := (h.hdr.at_ 2).trans rfl
  have htl := h.hdr.lt
  have HK := hid ((Keep.refl (fun _ => False) w).alloc (.cells #[.int .i64 c.a, .int .i64 c.b, .int .i64 c.c] 33))
  obtain ⟨ca, cb, cc⟩ := c
  dsimp only at *
  have HV : ∀ b, b = true → 0 ≤ cb → cb < m → vB m ⟨ca, cb, cc⟩ := fun _ _ h1 h2 => ⟨h1, h2⟩
  have HV := hid HV
  clear h
  by_cases d1 : ca < 0
  · have hd1 : decide (ca < 0) = true := decide_eq_true (by omega)
    go_enter Try.func19, Try.ntmps19
    go_wp2_with fail
    go_quiet (fail)
    go_wp2_with fail
    go_ret
    exact ⟨⟨_, rfl, fun h => by cases h⟩, HK.out.drewN _⟩
  · by_cases d2 : 1099511627776 < ca
    · have hd1 : decide (ca < 0) = false := decide_eq_false (by omega)
      have hd2 : decide (1099511627776 < ca) = true := decide_eq_true (by omega)
      go_enter Try.func19, Try.ntmps19
      go_wp2_with fail
      go_quiet (fail)
      go_wp2_with fail
      go_ret
      exact ⟨⟨_, rfl, fun h => by cases h⟩, HK.out.drewN _⟩
    · by_cases d3 : cb < 0
      · have hd1 : decide (ca < 0) = false := decide_eq_false (by omega)
        have hd2 : decide (1099511627776 < ca) = false := decide_eq_false (by omega)
        have hd3 : decide (cb < 0) = true := decide_eq_true (by omega)
        go_enter Try.func19, Try.ntmps19
        go_wp2_with fail
        go_quiet (fail)
        go_wp2_with fail
        go_ret
        exact ⟨⟨_, rfl, fun h => by cases h⟩, HK.out.drewN _⟩
      · by_cases d4 : (m : Int) ≤ cb
        · have hd1 : decide (ca < 0) = false := decide_eq_false (by omega)
          have hd2 : decide (1099511627776 < ca) = false := decide_eq_false (by omega)
          have hd3 : decide (cb < 0) = false := decide_eq_false (by omega)
          have hd4 : decide ((m : Int) ≤ cb) = true := decide_eq_true (by omega)
          go_enter Try.func19, Try.ntmps19
          go_wp2_with fail
          go_quiet (fail)
          go_wp2_with fail
          go_ret
          exact ⟨⟨_, rfl, fun h => by cases h⟩, HK.out.drewN _⟩
        · by_cases d5 : 1 ≤ cc
          · by_cases d6 : cc ≤ 1048576
            · have hd1 : decide (ca < 0) = false := decide_eq_false (by omega)
              have hd2 : decide (1099511627776 < ca) = false := decide_eq_false (by omega)
              have hd3 : decide (cb < 0) = false := decide_eq_false (by omega)
              have hd4 : decide ((m : Int) ≤ cb) = false := decide_eq_false (by omega)
              have hd5 : decide (1 ≤ cc) = true := decide_eq_true (by omega)
              have hd6 : decide (cc ≤ 1048576) = true := decide_eq_true (by omega)
              go_enter Try.func19, Try.ntmps19
              go_wp2_with fail
              go_quiet (fail)
              go_wp2_with fail
              go_ret
              exact ⟨⟨_, rfl, fun h => HV.out _ h (by omega) (by omega)⟩, by first | exact HK.out.drewN _ | exact (HK.out.drewN _).drewN _⟩
            · have hd1 : decide (ca < 0) = false := decide_eq_false (by omega)
              have hd2 : decide (1099511627776 < ca) = false := decide_eq_false (by omega)
              have hd3 : decide (cb < 0) = false := decide_eq_false (by omega)
              have hd4 : decide ((m : Int) ≤ cb) = false := decide_eq_false (by omega)
              have hd5 : decide (1 ≤ cc) = true := decide_eq_true (by omega)
              have hd6 : decide (cc ≤ 1048576) = false := decide_eq_false (by omega)
              go_enter Try.func19, Try.ntmps19
              go_wp2_with fail
              go_quiet (fail)
              go_wp2_with fail
              go_ret
              exact ⟨⟨_, rfl, fun h => HV.out _ h (by omega) (by omega)⟩, by first | exact HK.out.drewN _ | exact (HK.out.drewN _).drewN _⟩
          · have hd1 : decide (ca < 0) = false := decide_eq_false (by omega)
            have hd2 : decide (1099511627776 < ca) = false := decide_eq_false (by omega)
            have hd3 : decide (cb < 0) = false := decide_eq_false (by omega)
            have hd4 : decide ((m : Int) ≤ cb) = false := decide_eq_false (by omega)
            have hd5 : decide (1 ≤ cc) = false := decide_eq_false (by omega)
            go_enter Try.func19, Try.ntmps19
            go_wp2_with fail
            go_quiet (fail)
            go_wp2_with fail
            go_ret
            exact ⟨⟨_, rfl, fun h => HV.out _ h (by omega) (by omega)⟩, by first | exact HK.out.drewN _ | exact (HK.out.drewN _).drewN _⟩
/-! ## At, All, Closed -/
def clampT (t : Int) : Int := min (max t 0) 1099511627776
def atR (l : List E3) (r : List E3) (t : Int) (i : Nat) : Int := if srch (geB r (clampT t + 1)) 0 r.length = 0 then (l[i]?.map E3.c).getD 0 else (r[srch (geB r (clampT t + 1)) 0 r.length - 1]?.map E3.c).getD 0
def atV (l : List E3) (L : List (List E3)) (t : Int) (i : Nat) : Int := atR l (L[i]?.getD []) t i
set_option maxRecDepth 100000 in
set_option maxHeartbeats 4000000 in
theorem at_any {w0 w : World} {base t g pb : Nat} {chv : Value} {cs : List E3} {V : List Value} {L : List (List E3)} {N : Nat} {l : List E3} {E : Option Addr} {cE po pi : Nat} (hG : IsG w0 g N l E cE po pi) (hl : l.length ≤ 16384) (h : TT0 w0 w base t g l.length pb chv cs V L)
    (hr : ∀ r ∈ L, r.length ≤ 1000000) (tick : Int) (i : Nat) (hi : i < l.length) :
    Calls Try.prog 20 #[.pointer (some ⟨t, 0, none⟩), .int .i64 i, .int .i64 tick] w fun e w' => e = .returned (.int .i64 (atV l L tick i)) ∧ Same w w' := by
  obtain ⟨r, hr0⟩ := get_some (l := L) (k := i) (by rw [h.lenL]; exact hi)
  obtain ⟨e0, he0⟩ := get_some hi
  obtain ⟨A, c, hV, ho, cr⟩ := h.tbl.row hr0
  have c0 : w.cell? ⟨t, 0, none⟩ = some (.pointer (some ⟨g, 0, none⟩)) := (h.hdr.at_ 0).trans rfl
  have c2 : w.cell? ⟨t, 2, none⟩ = some (.slice (some ⟨pb, 0, none⟩) l.length l.length) := (h.hdr.at_ 2).trans rfl
  have hsl : Sl w (fun _ => False) 3 A r.length (e3cells r) := ho.slN.wide (fun _ _ f => f.elim)
  have hrl := hr r (List.mem_of_getElem? hr0)
  have HC := hid (countB_any w A c r (clampT tick + 1) hsl hrl)
  have HS := hid hsl
  have HED := hid (fun (W : World) (hk : Same w W) => edge_any W g N l E cE po pi ((hG.same h.same).same hk) hl i e0 he0)
  have HE0 := hid he0
  have HR0 := hid hr0
  have htl := h.hdr.lt
  have hpl := h.tbl.blk.lt
  have HV := hid (show atV l L tick i = if srch (geB r (clampT tick + 1)) 0 r.length = 0 then e0.c else (r[srch (geB r (clampT tick + 1)) 0 r.length - 1]?.map E3.c).getD 0 from by
    unfold atV atR
    rw [HR0.out, HE0.out]; rfl)
  have hsr := (srch_le (geB r (clampT tick + 1)) r.length 0 r.length (by omega) (by omega)).2
  generalize srch (geB r (clampT tick + 1)) 0 r.length = nn at HC HV hsr
  have hi0 : (0 : Int) ≤ (i : Int) := Int.natCast_nonneg _
  have hi1 : (i : Int) < (l.length : Int) := by omega
  have hd1 : decide ((i : Int) < 0) = false := decide_eq_false (by omega)
  have hd2 : decide ((l.length : Int) ≤ (i : Int)) = false := decide_eq_false (by omega)
  have hct : 0 ≤ clampT tick ∧ clampT tick ≤ 1099511627776 := by unfold clampT; omega
  obtain ⟨hct0, hct1⟩ := hct
  have HCT := hid (show (if 1099511627776 < if tick < 0 then 0 else tick then 1099511627776 else if tick < 0 then 0 else tick) = clampT tick from by unfold clampT; split <;> split at * <;> omega)
  obtain ⟨ea, eb, ec⟩ := e0
  have hmm : l.length < 9223372036854775807 := by omega
  clear h hG hr hr0 he0 hV ho hsl
  generalize clampT tick = ct at *
  by_cases hn : 0 = nn
  · subst hn
    have HV1 := hid (HV.out.trans (if_pos rfl))
    clear HV
    go_enter Try.func20, Try.ntmps20
    go_upto_region 5 with fail
    simp only [HCT.out]
    clear HCT
    generalize (if tick < 0 then 0 else tick) = tk0
    go_wp2_with (first
      | (go_at_call 29; (with_reducible refine HC.out.mono ?_); rintro e w2 ⟨rfl, hk2⟩; have HK2 := hid hk2; have HE2 := hid (HED.out w2 hk2); have c0 := (hk2.cell (p := ⟨t, 0, none⟩) htl (fun f => f)).trans c0; clear hk2)
      | (go_at_call 26; (with_reducible refine HE2.out.mono ?_); rintro e w3 ⟨rfl, hk3⟩; have HK3 := hid hk3; clear hk3))
    go_ret
    refine ⟨by rw [HV1.out]; rfl, ?_⟩
    have := HK2.out.then HK3.out
    exact (this.alloc _)
  · obtain ⟨ex, hx⟩ := get_some (l := r) (k := nn - 1) (by omega)
    obtain ⟨b1, o1, rfl, hb1, x0, x1, x2⟩ := e3_at HS.out hx
    have HX := hid hx
    have hn0 : (0 : Int) < (nn : Int) := by omega
    have HN1 := hid (show ((nn - 1 : Nat) : Int) = (nn : Int) - 1 by omega)
    obtain ⟨k, hk⟩ : ∃ k, k = nn - 1 := ⟨_, rfl⟩
    rw [← hk] at x0 x1 x2 HX
    have hk1 : (nn : Int) - 1 = (k : Int) := by omega
    have HK := hid hk
    have hkr : (k : Int) < (r.length : Int) := by omega
    have hk0 : (0 : Int) ≤ (k : Int) := Int.natCast_nonneg _
    clear hx hk
    go_enter Try.func20, Try.ntmps20
    go_upto_region 5 with fail
    simp only [HCT.out]
    clear HCT
    generalize (if tick < 0 then 0 else tick) = tk0
    go_wp2_with (go_at_call 29; (with_reducible refine HC.out.mono ?_); rintro e w2 ⟨rfl, hk2⟩; have HK2 := hid hk2; have x2 := (hk2.cell (p := ⟨b1, o1 + k * 3 + 2, none⟩) hb1 (fun f => f)).trans x2; clear hk2)
    go_ret
    refine ⟨by rw [HV.out, if_neg (fun e => hn e.symm), ← HK.out, HX.out]; rfl, HK2.out⟩
def allT (l : List E3) (L : List (List E3)) (t : Int) : List Int := (List.range l.length).map (atV l L t)
set_option maxRecDepth 100000 in
set_option maxHeartbeats 4000000 in
theorem all_any {w0 w : World} {base t g pb : Nat} {chv : Value} {cs : List E3} {V : List Value} {L : List (List E3)} {N : Nat} {l : List E3} {E : Option Addr} {cE po pi : Nat} (hG : IsG w0 g N l E cE po pi) (hl : l.length ≤ 16384) (h : TT0 w0 w base t g l.length pb chv cs V L)
    (hr : ∀ r ∈ L, r.length ≤ 1000000) (tick : Int) :
    Calls Try.prog 9 #[.pointer (some ⟨t, 0, none⟩), .int .i64 tick] w (TT w (allT l L tick)) := by
  have c2 : w.cell? ⟨t, 2, none⟩ = some (.slice (some ⟨pb, 0, none⟩) l.length l.length) := (h.hdr.at_ 2).trans rfl
  have HAT := hid (fun (W : World) (hk : Same w W) (i : Nat) (hi : i < l.length) => at_any hG hl (h.more hk) hr tick i hi)
  have hmk := fun W => EI64.make .i64 .i64 l.length l.length (by omega) (by omega) (by omega) (by omega) W
  have hlen : (allT l L tick).length = l.length := by simp [allT]
  have HLN := hid hlen
  have HAL := hid (show part (atV l L tick) l.length l.length = icellsC (allT l L tick) from part_all _ _)
  obtain ⟨m, hm⟩ : ∃ m, m = l.length := ⟨_, rfl⟩
  rw [← hm] at hmk hl HAL HLN c2
  have HM := hid hm
  clear hG h hr hm hlen
  go_enter Try.func9, Try.ntmps9
  go_wp2_with fail
  have hb0 := Blk.made w 2 (part (atV l L tick) m 0).toArray
  have hk0 := (Keep.refl (fun _ => False) w).alloc (.cells (part (atV l L tick) m 0).toArray 2)
  have e0 : (madeCells #[.int .i64 0] m) = (part (atV l L tick) m 0).toArray := by
    rw [← Array.toList_inj, toList_madeCells_one, part_zero]
  rw [e0]
  clear e0 hmk
  generalize w.alloc (.cells (part (atV l L tick) m 0).toArray 2) = W0 at *
  obtain ⟨R, hR⟩ : ∃ R, R = w.heap.size := ⟨_, rfl⟩
  rw [← hR] at hb0 ⊢
  have HB0 := hid hb0
  have HK0 := hid (hk0.wide (T := (· = R)) (fun _ _ f => f.elim))
  have HR := hid hR
  clear hb0 hk0 hR
  go_loopw [15] (fun i wr => ∃ k : Nat, k ≤ m ∧ i = .int .i64 k ∧ Hid (Blk wr R 2 (part (atV l L tick) m k).toArray ∧ Keep (· = R) w wr)) (fun i _ => m - (RowKit.intOf i).toNat)
  case atStart => exact ⟨0, Nat.zero_le _, rfl, hid ⟨HB0.out, HK0.out⟩⟩
  case round =>
    obtain ⟨k, hk, rfl, HL⟩ := hrel
    clear HB0 HK0
    by_cases hkn : k < m
    · have hk0 : (0 : Int) ≤ (k : Int) := Int.natCast_nonneg _
      have hk1 : (k : Int) < (m : Int) := by omega
      have HTV := hid (HAT.out wr (HL.out.2.wide (fun i hi e => by have := HR.out; have : i = R := e; omega)) k (by have := HM.out; omega))
      go_wp2_with (go_at_call 20; (with_reducible refine HTV.out.mono ?_); rintro e w2 ⟨rfl, hk2⟩; have HB2 := hid (HL.out.1.keep hk2 (fun f => f)); have HK2 := hid (HL.out.2.then hk2); have cr : w2.cell? ⟨R, k, none⟩ = some (.int .i64 0) := (HB2.out.at_ k).trans (by rw [List.getElem?_toArray, part_at _ _ _ _ hkn, if_neg (by omega)]); have fr := HB2.out.free k; clear hk2)
      go_round
      case rel =>
        refine ⟨k + 1, by omega, by go_num, hid ⟨?_, HK2.out.put k _⟩⟩
        have := HB2.out.put k (.int .i64 (atV l L tick k))
        rw [List.setIfInBounds_toArray, part_set _ _ _ hkn] at this
        exact this
      case measure => simp [RowKit.intOf]; omega
    · have hke : m = k := by omega
      subst hke
      go_wp2_with fail
      go_ret
      refine ⟨R, by rw [HLN.out]; rfl, ?_, HL.out.2.wide (fun i hi e => by have := HR.out; have : i = R := e; omega), by have := HR.out; omega⟩
      have := HL.out.1
      rw [HAL.out] at this
      exact this
def closedL (ts : List Int) (k : Nat) : List Int := ((List.range k).filter (fun i => ts[i]? == some INF)).map Int.ofNat
theorem closedL_snoc (ts : List Int) (k : Nat) : closedL ts (k + 1) = closedL ts k ++ (if ts[k]? = some INF then [(k : Int)] else []) := by
  unfold closedL
  rw [List.range_succ, List.filter_append, List.map_append]
  congr 1
  by_cases e1 : ts[k]? = some INF <;> simp [e1]
theorem closedL_le (ts : List Int) (k : Nat) : (closedL ts k).length ≤ k := by
  unfold closedL; rw [List.length_map]; exact Nat.le_trans (List.length_filter_le _ _) (by rw [List.length_range]; exact Nat.le_refl _)
theorem closedL_mem {ts : List Int} {k : Nat} {x : Int} (h : x ∈ closedL ts k) : ∃ i : Nat, i < k ∧ x = (i : Int) ∧ ts[i]? = some INF := by
  unfold closedL at h
  obtain ⟨i, hi, rfl⟩ := List.mem_map.1 h
  obtain ⟨h1, h2⟩ := List.mem_filter.1 hi
  exact ⟨i, List.mem_range.1 h1, rfl, by simpa using h2⟩
def ClosedPost (w : World) (ts : List Int) (e : Ending) (w' : World) : Prop := ∃ A c, e = .returned (.slice A (closedL ts ts.length).length c) ∧ Sl w' (fun _ => False) 1 A (closedL ts ts.length).length (icellsC (closedL ts ts.length)) ∧ Same w w'
set_option maxRecDepth 100000 in
set_option maxHeartbeats 4000000 in
theorem closed_any {w0 w : World} {base t g pb : Nat} {chv : Value} {cs : List E3} {V : List Value} {L : List (List E3)} {N : Nat} {l : List E3} {E : Option Addr} {cE po pi : Nat} (hG : IsG w0 g N l E cE po pi) (hl : l.length ≤ 16384) (h : TT0 w0 w base t g l.length pb chv cs V L)
    (hr : ∀ r ∈ L, r.length ≤ 1000000) (tick : Int) :
    Calls Try.prog 14 #[.pointer (some ⟨t, 0, none⟩), .int .i64 tick] w (ClosedPost w (allT l L tick)) := by
  have HAL := hid (all_any hG hl h hr tick)
  have hlen : (allT l L tick).length = l.length := by simp [allT]
  generalize allT l L tick = ts at *
  rw [← hlen] at hl
  clear hG h hr hlen
  go_enter Try.func14, Try.ntmps14
  go_wp2_with (go_at_call 9; (with_reducible refine HAL.out.mono ?_); rintro e w2 ⟨R, rfl, hb2, hk2, hR2⟩; have HB2 := hid hb2; have HK2 := hid hk2; clear hb2 hk2)
  go_loopw [5, 12] (fun s i wr => ∃ (k : Nat) (A : Option Addr) (c : Nat), k ≤ ts.length ∧ s = .slice A (closedL ts k).length c ∧ i = .int .i64 k ∧ Hid (Own wr w2.heap.size 3 1 (.slice A (closedL ts k).length c) (closedL ts k).length (icellsC (closedL ts k)) ∧ Same w2 wr)) (fun _ i _ => ts.length - (RowKit.intOf i).toNat)
  case atStart => exact ⟨0, none, 0, Nat.zero_le _, rfl, rfl, hid ⟨Own.nil _ _ _ _, Keep.refl _ _⟩⟩
  case round =>
    obtain ⟨k, A, c, hk, rfl, rfl, HL⟩ := hrel
    by_cases hkn : k < ts.length
    · obtain ⟨v, hv⟩ := get_some hkn
      have hk0 : (0 : Int) ≤ (k : Int) := Int.natCast_nonneg _
      have hk1 : (k : Int) < (ts.length : Int) := by omega
      have x0 : wr.cell? ⟨R, k, none⟩ = some (.int .i64 v) := ((HB2.out.keep HL.out.2 (fun f => f)).at_ k).trans (by simp [icellsC, hv])
      have hle := closedL_le ts k
      by_cases hvi : v = 4611686018427387904
      · have HCS := hid (show closedL ts (k + 1) = closedL ts k ++ [(k : Int)] from by rw [closedL_snoc, if_pos (by rw [hv, hvi]; rfl)])
        have hd : (v == 4611686018427387904) = true := by simp [hvi]
        have HO2 := hid (HL.out.1.keep ((Keep.refl (fun _ => False) wr).alloc (.cells #[.int .i64 (k : Int)] 3)) (fun _ _ _ f => f))
        have HSR := hid (src_new (w := wr) (cs := #[.int .i64 (k : Int)]) (t := 3) (news := icellsC [(k : Int)]) rfl)
        have HBS := hid (show w2.heap.size ≤ (wr.alloc (.cells #[.int .i64 (k : Int)] 3)).heap.size from by rw [World.size_alloc]; have := HL.out.2.size; omega)
        clear hv hvi
        go_wp2_with (refine EInt.law2 (.tmp 19) (.tmp 21) (.slice A (closedL ts k).length c) (some ⟨wr.heap.size, 0, none⟩) 1 1 rfl rfl rfl rfl w2.heap.size (closedL ts k).length (icellsC (closedL ts k)) (icellsC [(k : Int)]) ((closedL ts k).length + 1) _ rfl (icC_appH (closedL ts k) [(k : Int)]).symm HO2.out rfl (fun _ => ⟨_, rfl, HSR.out⟩) (by intro u hu; simp [icellsC] at hu; subst hu; rfl) (by omega) (by unfold maxLen; omega) HBS.out ?_; intro A' c' w' h1 h2 h3; have H1 := hid h1; have H2 := hid h2; clear h1 h2 h3)
        go_roundw
        case rel => first | exact ⟨k + 1, A', c', by omega, by rw [HCS.out, List.length_append]; rfl, by go_num, hid ⟨by rw [HCS.out, List.length_append]; exact H1.out, (HL.out.2.alloc _).grown H2.out (fun g e hg => by have := HL.out.1.block g e; omega)⟩⟩ | ((repeat apply Exists.intro); refine And.intro ?_ rfl; exact ⟨k + 1, A', c', by omega, by rw [HCS.out, List.length_append]; rfl, by go_num, hid ⟨by rw [HCS.out, List.length_append]; exact H1.out, (HL.out.2.alloc _).grown H2.out (fun g e hg => by have := HL.out.1.block g e; omega)⟩⟩)
        case measure => simp [RowKit.intOf]; omega
      · have HCS := hid (show closedL ts (k + 1) = closedL ts k from by rw [closedL_snoc, if_neg (by rw [hv]; intro e; injection e with e; exact hvi e), List.append_nil])
        have hd : (v == 4611686018427387904) = false := by simp [hvi]
        clear hv hvi
        go_wp2_with fail
        go_roundw
        case rel => first | exact ⟨k + 1, A, c, by omega, by rw [HCS.out], by go_num, hid ⟨by rw [HCS.out]; exact HL.out.1, HL.out.2⟩⟩ | ((repeat apply Exists.intro); refine And.intro ?_ rfl; exact ⟨k + 1, A, c, by omega, by rw [HCS.out], by go_num, hid ⟨by rw [HCS.out]; exact HL.out.1, HL.out.2⟩⟩)
        case measure => simp [RowKit.intOf]; omega
    · have hke : k = ts.length := by omega
      subst hke
      go_wp2_with fail
      go_ret
      exact ⟨A, c, rfl, HL.out.1.slN.wide (fun _ _ f => f.elim), HK2.out.then HL.out.2⟩
end Go.Proofs.Ytmllpapkgfclkaa

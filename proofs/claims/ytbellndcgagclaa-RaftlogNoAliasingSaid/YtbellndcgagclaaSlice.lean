import Derived.Test.YtbellndcgagclaaLook
namespace Go.Proofs.Ytbellndcgagclaa
open Go.RowKit

/-! ## Slice -/
def fromN (l : List En) (i most : Int) : List En := if most < 1 then [] else (l.drop (max i 1 - 1).toNat).take most.toNat
def SlicePost (w : World) (q : List PE) (e : Ending) (w' : World) : Prop :=
  ∃ Y n d l', e = .returned (.slice Y n d) ∧ Ls w' (· < w.heap.size) Y n d l' ∧ l'.map En.pe = q ∧ Same w w'
theorem SlicePost.nil (w w' : World) (h : Same w w') : SlicePost w [] (.returned (.slice none 0 0)) w' := ⟨none, 0, 0, [], rfl, Ls.nil _ _, rfl, h⟩
/-- so far k entries are cloned into block G -/
structure Cloned (w : World) (wr : World) (G m k : Nat) (p : List En) : Prop where
  ex : ∃ cs : Array Value, ∃ l' : List En, Blk wr G 46 cs ∧ cs.size = m * 3 ∧ cs.toList.take (k * 3) = enFlat l' ∧ l'.length = k ∧ l'.map En.pe = (p.take k).map En.pe ∧ (∀ e ∈ l', EnOk wr (fun i => i < w.heap.size ∨ i = G) e)
  same : Same w wr
theorem Cloned.keep {w wr w' : World} {G m k : Nat} {p : List En} (h : Cloned w wr G m k p) (hk : Same wr w') : Cloned w w' G m k p := by
  obtain ⟨cs, l', h1, h2, h3, h4, h5, h6⟩ := h.ex
  exact ⟨⟨cs, l', h1.keep hk (fun f => f), h2, h3, h4, h5, fun e he => (h6 e he).same hk⟩, h.same.then hk⟩
theorem take_set3 {cs : Array Value} {k m : Nat} {x y z : Value} {p : List Value} (hs : cs.size = m * 3) (hk : k < m) (h : cs.toList.take (k * 3) = p) :
    ((((cs.setIfInBounds (k * 3) x).setIfInBounds (k * 3 + 1) y).setIfInBounds (k * 3 + 2) z).toList.take ((k + 1) * 3)) = p ++ [x, y, z] := by
  simp only [Array.toList_setIfInBounds]
  have hl : cs.toList.length = m * 3 := by simpa using hs
  generalize cs.toList = l at *
  have e1 : (k + 1) * 3 = k * 3 + 3 := by omega
  rw [e1]
  subst h
  apply List.ext_getElem?
  intro j
  by_cases h1 : j < k * 3
  · rw [List.getElem?_take_of_lt (by omega), List.getElem?_append_left (by simp; omega), List.getElem?_take_of_lt h1]
    rw [List.getElem?_set_ne (by omega), List.getElem?_set_ne (by omega), List.getElem?_set_ne (by omega)]
  · by_cases h2 : j < k * 3 + 3
    · rw [List.getElem?_take_of_lt h2, List.getElem?_append_right (by simp; omega)]
      have hlt : (l.take (k * 3)).length = k * 3 := by simp; omega
      rw [hlt]
      obtain h3 | h3 | h3 : j = k * 3 ∨ j = k * 3 + 1 ∨ j = k * 3 + 2 := by omega
      all_goals subst h3
      · rw [List.getElem?_set_ne (by omega), List.getElem?_set_ne (by omega), List.getElem?_set_self (by omega)]; simp
      · rw [List.getElem?_set_ne (by omega), List.getElem?_set_self (by simp; omega)]; simp
      · rw [List.getElem?_set_self (by simp; omega)]; simp
    · rw [List.getElem?_eq_none (by simp; omega), List.getElem?_eq_none (by simp; omega)]
/-- one clone more -/
theorem Cloned.put {w wr : World} {G m k : Nat} {p : List En} (h : Cloned w wr G m k p) (hk : k < m) (hG : w.heap.size ≤ G) {e x : En} (he : p[k]? = some e) (hx : EnOk wr (fun i => i < w.heap.size ∨ i = G) x) (hp : x.pe = e.pe) :
    Cloned w (((wr.setCell ⟨G, k * 3, none⟩ (.int .i64 x.t)).setCell ⟨G, k * 3 + 1, none⟩ (.int .i64 x.k)).setCell ⟨G, k * 3 + 2, none⟩ (.slice x.A x.m x.c)) G m (k + 1) p := by
  obtain ⟨cs, l', h1, h2, h3, h4, h5, h6⟩ := h.ex
  have hk3 : Keep (· = G) wr (((wr.setCell ⟨G, k * 3, none⟩ (.int .i64 x.t)).setCell ⟨G, k * 3 + 1, none⟩ (.int .i64 x.k)).setCell ⟨G, k * 3 + 2, none⟩ (.slice x.A x.m x.c)) := (((Keep.refl _ wr).put _ _).put _ _).put _ _
  refine ⟨⟨_, l' ++ [x], ((h1.put _ _).put _ _).put _ _, by simpa using h2, ?_, by simp [h4], ?_, ?_⟩, h.same.trans hk3 (fun i hi hs => by omega)⟩
  · rw [take_set3 h2 hk h3]
    simp [enFlat, En.cells]
  · rw [take_snoc he, List.map_append, List.map_append, h5]
    simp [hp]
  · intro y hy
    rcases List.mem_append.1 hy with hy | hy
    · exact (h6 y hy).keep hk3 (fun i _ hs => .inr hs)
    · simp at hy
      subst hy
      exact hx.keep hk3 (fun i _ hs => .inr hs)
theorem Cloned.cell {w wr : World} {G m k : Nat} {p : List En} (h : Cloned w wr G m k p) (hk : k < m) : (∃ u, wr.cell? ⟨G, k * 3, none⟩ = some u) ∧ (∃ u, wr.cell? ⟨G, k * 3 + 1, none⟩ = some u) ∧ (∃ u, wr.cell? ⟨G, k * 3 + 2, none⟩ = some u) ∧ (∀ j, wr.frozen? ⟨G, j, none⟩ = false) ∧ G < wr.heap.size := by
  obtain ⟨cs, l', h1, h2, _⟩ := h.ex
  refine ⟨?_, ?_, ?_, fun j => h1.free j, h1.lt⟩
  · obtain ⟨v, hv⟩ := get_some (l := cs.toList) (k := k * 3) (by simp; omega)
    exact ⟨v, by rw [h1.at_]; simpa using hv⟩
  · obtain ⟨v, hv⟩ := get_some (l := cs.toList) (k := k * 3 + 1) (by simp; omega)
    exact ⟨v, by rw [h1.at_]; simpa using hv⟩
  · obtain ⟨v, hv⟩ := get_some (l := cs.toList) (k := k * 3 + 2) (by simp; omega)
    exact ⟨v, by rw [h1.at_]; simpa using hv⟩
theorem Cloned.done {w wr : World} {G m : Nat} {p : List En} (h : Cloned w wr G m m p) (hG : w.heap.size ≤ G) (hm : p.length = m) (q : List PE) (hq : q = p.map En.pe) : SlicePost w q (.returned (.slice (some ⟨G, 0, none⟩) m m)) wr := by
  obtain ⟨cs, l', h1, h2, h3, h4, h5, h6⟩ := h.ex
  refine ⟨_, m, m, l', rfl, ⟨h4, ?_, fun e he => (h6 e he).wide (fun i _ hs => .inl hs), Nat.le_refl _⟩, ?_, h.same⟩
  · have := Sl.of_blk (Av := (· < w.heap.size)) (size := 3) (n := m) h1 h2 (by omega)
    rwa [← h3, List.take_of_length_le (by simp; omega)]
  · rw [h5, hq, List.take_of_length_le (by omega)]
set_option maxHeartbeats 8000000 in
set_option maxRecDepth 100000 in
theorem slice_any (w : World) (Av : Nat → Prop) (lb : Nat) (r : Option Nat) (A : Option Addr) (c : Nat) (l : List En) (h : IsLog w Av lb r A c l) (hn : l.length ≤ 1000) (i most : Int) :
    Calls Try.prog 20 #[.pointer (some ⟨lb, 0, none⟩), .int .i64 i, .int .i64 most] w (SlicePost w ((fromN l i most).map En.pe)) := by
  have hc := h.c0
  have hlt := h.top.lt
  have HI := hid h
  obtain ⟨j, hj, hij⟩ : ∃ j : Nat, (max i 1 - 1).toNat = j ∧ ((i < 1 ∧ j = 0) ∨ (1 ≤ i ∧ i = (j : Int) + 1)) := by
    refine ⟨_, rfl, ?_⟩
    by_cases h1 : i < 1
    · left; constructor <;> omega
    · right; constructor <;> omega
  by_cases h1 : most < 1
  · have e : fromN l i most = [] := by simp [fromN, h1]
    rw [e]
    clear h e hj
    generalize l.length = n at *
    rcases hij with ⟨h2, rfl⟩ | ⟨h2, rfl⟩
    all_goals
      go_enter Try.func20, Try.ntmps20
      go_wp2_with fail
      go_ret
      exact SlicePost.nil _ _ (Keep.refl _ _)
  · by_cases h2 : l.length ≤ j
    · have e : fromN l i most = [] := by simp [fromN, h1, hj, List.drop_of_length_le h2]
      rw [e]
      clear h e hj
      generalize l.length = n at *
      rcases hij with ⟨h3, rfl⟩ | ⟨h3, rfl⟩
      all_goals
        go_enter Try.func20, Try.ntmps20
        go_wp2_with fail
        go_ret
        exact SlicePost.nil _ _ (Keep.refl _ _)
    · obtain ⟨m, hm, hmm⟩ : ∃ m : Nat, m = (fromN l i most).length ∧ ((most ≤ (l.length - j : Nat) ∧ most = m) ∨ ((l.length - j : Nat) < most ∧ m = l.length - j)) := by
        refine ⟨_, rfl, ?_⟩
        simp only [fromN, if_neg h1, hj, List.length_take, List.length_drop]
        omega
      have hp := hid (show ∀ k e, (fromN l i most)[k]? = some e → l[j + k]? = some e by
        intro k e he
        simp only [fromN, if_neg h1, hj, List.getElem?_take, List.getElem?_drop] at he
        split at he
        · exact he
        · cases he)
      have Hm := hid hm
      have hmk := fun W => E26.make .i64 .i64 m m (by omega) (by omega) (by omega) (by omega) W
      obtain ⟨b, off, rfl, _⟩ := h.ls.sl.at_ (by omega)
      have hcap := h.cap
      clear h hj hm
      generalize hnn : l.length = n at *
      have Hn := hid hnn
      clear hnn
      rcases hij with ⟨h3, rfl⟩ | ⟨h3, rfl⟩
      · rcases hmm with ⟨h4, rfl⟩ | ⟨h4, rfl⟩
        · go_enter Try.func20, Try.ntmps20
          go_wp2_with fail
          go_loopw [42] (fun v wr => ∃ k : Nat, k ≤ m ∧ v = .int .i64 k ∧ Hid (Cloned w wr w.heap.size m k (fromN l i m))) (fun v _ => m - (RowKit.intOf v).toNat)
          case atStart => exact ⟨0, by omega, rfl, hid ⟨⟨_, [], Blk.made w 46 _, by simp [size_madeCells], by simp [enFlat], rfl, rfl, by simp⟩, (Keep.refl _ w).alloc _⟩⟩
          case round =>
            obtain ⟨k, hk, rfl, HCl⟩ := hrel
            by_cases hkm : k < m
            · obtain ⟨e, he⟩ := get_some (l := fromN l i m) (k := k) (by have := Hm.out; omega)
              have hle := hp.out k e he
              have hsame := HCl.out.same
              have hsz := hsame.size
              obtain ⟨b', off', e1, c0, c1, c2⟩ := (HI.out.ls.same (hsame.alloc (.cells #[.int .i64 0, .int .i64 0, .slice none 0 0] 46))).at_ hle
              obtain ⟨b'', off'', e1', d0, d1, d2⟩ := (HI.out.ls.same hsame).at_ hle
              cases e1
              cases e1'
              have ho : off + (0 + k) * 3 = off + k * 3 := by omega
              rw [ho] at c0 c1 c2 d0 d1 d2
              have HE := hid (HI.out.el e (List.mem_of_getElem? hle))
              have he8 := rightP_len HE.out (HI.out.ok e (List.mem_of_getElem? hle))
              have HP := hid he
              have hb := (Blk.made wr 46 #[.int .i64 0, .int .i64 0, .slice none 0 0])
              have f0 := hb.free 0
              have f1 := hb.free 1
              have f2 := hb.free 2
              have z0 : (wr.alloc (.cells #[.int .i64 0, .int .i64 0, .slice none 0 0] 46)).cell? ⟨wr.heap.size, 0, none⟩ = some (.int .i64 0) := hb.at_ 0
              have z1 : (wr.alloc (.cells #[.int .i64 0, .int .i64 0, .slice none 0 0] 46)).cell? ⟨wr.heap.size, 1, none⟩ = some (.int .i64 0) := hb.at_ 1
              have z2 : (wr.alloc (.cells #[.int .i64 0, .int .i64 0, .slice none 0 0] 46)).cell? ⟨wr.heap.size, 2, none⟩ = some (.slice none 0 0) := hb.at_ 2
              have hm1 : (k : Int) < ((m : Nat) : Int) := by omega
              have HS := hid hsame
              clear hb he hle hsame
              have HC := hid (clone_any _ _ e (HE.out.same (HS.out.alloc (.cells #[.int .i64 e.t, .int .i64 e.k, .slice e.A e.m e.c] 46))) he8)
              have hGlt := (HCl.out.cell hkm).2.2.2.2
              unfold En.val at HC
              go_wp2_with (first
                | (go_at_call 39; refine HC.out.mono ?_; rintro e' w2 ⟨B, d, rfl, he2, hk2⟩
                   unfold En.val
                   have HC2 := hid (HCl.out.keep (((Keep.refl _ wr).alloc _).then hk2))
                   obtain ⟨⟨u0, hu0⟩, ⟨u1, hu1⟩, ⟨u2, hu2⟩, hf, _⟩ := HC2.out.cell hkm
                   have g0 := hf (k * 3)
                   have g1 := hf (k * 3 + 1)
                   have g2 := hf (k * 3 + 2)
                   have HE2 := hid he2
                   clear hf he2 hk2))
              go_roundw
              case rel => exact ⟨k + 1, by omega, by go_num, hid (HC2.out.put hkm (Nat.le_refl _) HP.out (x := ⟨e.t, e.k, B, e.m, d, e.body⟩) (HE2.out.wide (fun i _ hs => by simp; omega)) rfl)⟩
              case measure => simp [RowKit.intOf]; omega
            · obtain rfl : k = m := by omega
              go_wp2_with fail
              go_ret
              exact HCl.out.done (Nat.le_refl _) Hm.out.symm _ rfl
        · go_enter Try.func20, Try.ntmps20
          go_wp2_with fail
          go_loopw [42] (fun v wr => ∃ k : Nat, k ≤ m ∧ v = .int .i64 k ∧ Hid (Cloned w wr w.heap.size m k (fromN l i most))) (fun v _ => m - (RowKit.intOf v).toNat)
          case atStart => exact ⟨0, by omega, rfl, hid ⟨⟨_, [], Blk.made w 46 _, by simp [size_madeCells], by simp [enFlat], rfl, rfl, by simp⟩, (Keep.refl _ w).alloc _⟩⟩
          case round =>
            obtain ⟨k, hk, rfl, HCl⟩ := hrel
            by_cases hkm : k < m
            · obtain ⟨e, he⟩ := get_some (l := fromN l i most) (k := k) (by have := Hm.out; omega)
              have hle := hp.out k e he
              have hsame := HCl.out.same
              have hsz := hsame.size
              obtain ⟨b', off', e1, c0, c1, c2⟩ := (HI.out.ls.same (hsame.alloc (.cells #[.int .i64 0, .int .i64 0, .slice none 0 0] 46))).at_ hle
              obtain ⟨b'', off'', e1', d0, d1, d2⟩ := (HI.out.ls.same hsame).at_ hle
              cases e1
              cases e1'
              have ho : off + (0 + k) * 3 = off + k * 3 := by omega
              rw [ho] at c0 c1 c2 d0 d1 d2
              have HE := hid (HI.out.el e (List.mem_of_getElem? hle))
              have he8 := rightP_len HE.out (HI.out.ok e (List.mem_of_getElem? hle))
              have HP := hid he
              have hb := (Blk.made wr 46 #[.int .i64 0, .int .i64 0, .slice none 0 0])
              have f0 := hb.free 0
              have f1 := hb.free 1
              have f2 := hb.free 2
              have z0 : (wr.alloc (.cells #[.int .i64 0, .int .i64 0, .slice none 0 0] 46)).cell? ⟨wr.heap.size, 0, none⟩ = some (.int .i64 0) := hb.at_ 0
              have z1 : (wr.alloc (.cells #[.int .i64 0, .int .i64 0, .slice none 0 0] 46)).cell? ⟨wr.heap.size, 1, none⟩ = some (.int .i64 0) := hb.at_ 1
              have z2 : (wr.alloc (.cells #[.int .i64 0, .int .i64 0, .slice none 0 0] 46)).cell? ⟨wr.heap.size, 2, none⟩ = some (.slice none 0 0) := hb.at_ 2
              have hm1 : (k : Int) < ((m : Nat) : Int) := by omega
              have HS := hid hsame
              clear hb he hle hsame
              have HC := hid (clone_any _ _ e (HE.out.same (HS.out.alloc (.cells #[.int .i64 e.t, .int .i64 e.k, .slice e.A e.m e.c] 46))) he8)
              have hGlt := (HCl.out.cell hkm).2.2.2.2
              unfold En.val at HC
              go_wp2_with (first
                | (go_at_call 39; refine HC.out.mono ?_; rintro e' w2 ⟨B, d, rfl, he2, hk2⟩
                   unfold En.val
                   have HC2 := hid (HCl.out.keep (((Keep.refl _ wr).alloc _).then hk2))
                   obtain ⟨⟨u0, hu0⟩, ⟨u1, hu1⟩, ⟨u2, hu2⟩, hf, _⟩ := HC2.out.cell hkm
                   have g0 := hf (k * 3)
                   have g1 := hf (k * 3 + 1)
                   have g2 := hf (k * 3 + 2)
                   have HE2 := hid he2
                   clear hf he2 hk2))
              go_roundw
              case rel => exact ⟨k + 1, by omega, by go_num, hid (HC2.out.put hkm (Nat.le_refl _) HP.out (x := ⟨e.t, e.k, B, e.m, d, e.body⟩) (HE2.out.wide (fun i _ hs => by simp; omega)) rfl)⟩
              case measure => simp [RowKit.intOf]; omega
            · obtain rfl : k = m := by omega
              go_wp2_with fail
              go_ret
              exact HCl.out.done (Nat.le_refl _) Hm.out.symm _ rfl
      · rcases hmm with ⟨h4, rfl⟩ | ⟨h4, rfl⟩
        · go_enter Try.func20, Try.ntmps20
          go_wp2_with fail
          go_loopw [42] (fun v wr => ∃ k : Nat, k ≤ m ∧ v = .int .i64 k ∧ Hid (Cloned w wr w.heap.size m k (fromN l ((j : Int) + 1) m))) (fun v _ => m - (RowKit.intOf v).toNat)
          case atStart => exact ⟨0, by omega, rfl, hid ⟨⟨_, [], Blk.made w 46 _, by simp [size_madeCells], by simp [enFlat], rfl, rfl, by simp⟩, (Keep.refl _ w).alloc _⟩⟩
          case round =>
            obtain ⟨k, hk, rfl, HCl⟩ := hrel
            by_cases hkm : k < m
            · obtain ⟨e, he⟩ := get_some (l := fromN l ((j : Int) + 1) m) (k := k) (by have := Hm.out; omega)
              have hle := hp.out k e he
              have hsame := HCl.out.same
              have hsz := hsame.size
              obtain ⟨b', off', e1, c0, c1, c2⟩ := (HI.out.ls.same (hsame.alloc (.cells #[.int .i64 0, .int .i64 0, .slice none 0 0] 46))).at_ hle
              obtain ⟨b'', off'', e1', d0, d1, d2⟩ := (HI.out.ls.same hsame).at_ hle
              cases e1
              cases e1'
              have ho : off + (j + k) * 3 = (off + j * 3) + k * 3 := by omega
              rw [ho] at c0 c1 c2 d0 d1 d2
              have HE := hid (HI.out.el e (List.mem_of_getElem? hle))
              have he8 := rightP_len HE.out (HI.out.ok e (List.mem_of_getElem? hle))
              have HP := hid he
              have hb := (Blk.made wr 46 #[.int .i64 0, .int .i64 0, .slice none 0 0])
              have f0 := hb.free 0
              have f1 := hb.free 1
              have f2 := hb.free 2
              have z0 : (wr.alloc (.cells #[.int .i64 0, .int .i64 0, .slice none 0 0] 46)).cell? ⟨wr.heap.size, 0, none⟩ = some (.int .i64 0) := hb.at_ 0
              have z1 : (wr.alloc (.cells #[.int .i64 0, .int .i64 0, .slice none 0 0] 46)).cell? ⟨wr.heap.size, 1, none⟩ = some (.int .i64 0) := hb.at_ 1
              have z2 : (wr.alloc (.cells #[.int .i64 0, .int .i64 0, .slice none 0 0] 46)).cell? ⟨wr.heap.size, 2, none⟩ = some (.slice none 0 0) := hb.at_ 2
              have hm1 : (k : Int) < ((m : Nat) : Int) := by omega
              have HS := hid hsame
              clear hb he hle hsame
              have HC := hid (clone_any _ _ e (HE.out.same (HS.out.alloc (.cells #[.int .i64 e.t, .int .i64 e.k, .slice e.A e.m e.c] 46))) he8)
              have hGlt := (HCl.out.cell hkm).2.2.2.2
              unfold En.val at HC
              go_wp2_with (first
                | (go_at_call 39; refine HC.out.mono ?_; rintro e' w2 ⟨B, d, rfl, he2, hk2⟩
                   unfold En.val
                   have HC2 := hid (HCl.out.keep (((Keep.refl _ wr).alloc _).then hk2))
                   obtain ⟨⟨u0, hu0⟩, ⟨u1, hu1⟩, ⟨u2, hu2⟩, hf, _⟩ := HC2.out.cell hkm
                   have g0 := hf (k * 3)
                   have g1 := hf (k * 3 + 1)
                   have g2 := hf (k * 3 + 2)
                   have HE2 := hid he2
                   clear hf he2 hk2))
              go_roundw
              case rel => exact ⟨k + 1, by omega, by go_num, hid (HC2.out.put hkm (Nat.le_refl _) HP.out (x := ⟨e.t, e.k, B, e.m, d, e.body⟩) (HE2.out.wide (fun i _ hs => by simp; omega)) rfl)⟩
              case measure => simp [RowKit.intOf]; omega
            · obtain rfl : k = m := by omega
              go_wp2_with fail
              go_ret
              exact HCl.out.done (Nat.le_refl _) Hm.out.symm _ rfl
        · go_enter Try.func20, Try.ntmps20
          go_wp2_with fail
          go_loopw [42] (fun v wr => ∃ k : Nat, k ≤ (n - j) ∧ v = .int .i64 k ∧ Hid (Cloned w wr w.heap.size (n - j) k (fromN l ((j : Int) + 1) most))) (fun v _ => (n - j) - (RowKit.intOf v).toNat)
          case atStart => exact ⟨0, by omega, rfl, hid ⟨⟨_, [], Blk.made w 46 _, by simp [size_madeCells], by simp [enFlat], rfl, rfl, by simp⟩, (Keep.refl _ w).alloc _⟩⟩
          case round =>
            obtain ⟨k, hk, rfl, HCl⟩ := hrel
            by_cases hkm : k < (n - j)
            · obtain ⟨e, he⟩ := get_some (l := fromN l ((j : Int) + 1) most) (k := k) (by have := Hm.out; omega)
              have hle := hp.out k e he
              have hsame := HCl.out.same
              have hsz := hsame.size
              obtain ⟨b', off', e1, c0, c1, c2⟩ := (HI.out.ls.same (hsame.alloc (.cells #[.int .i64 0, .int .i64 0, .slice none 0 0] 46))).at_ hle
              obtain ⟨b'', off'', e1', d0, d1, d2⟩ := (HI.out.ls.same hsame).at_ hle
              cases e1
              cases e1'
              have ho : off + (j + k) * 3 = (off + j * 3) + k * 3 := by omega
              rw [ho] at c0 c1 c2 d0 d1 d2
              have HE := hid (HI.out.el e (List.mem_of_getElem? hle))
              have he8 := rightP_len HE.out (HI.out.ok e (List.mem_of_getElem? hle))
              have HP := hid he
              have hb := (Blk.made wr 46 #[.int .i64 0, .int .i64 0, .slice none 0 0])
              have f0 := hb.free 0
              have f1 := hb.free 1
              have f2 := hb.free 2
              have z0 : (wr.alloc (.cells #[.int .i64 0, .int .i64 0, .slice none 0 0] 46)).cell? ⟨wr.heap.size, 0, none⟩ = some (.int .i64 0) := hb.at_ 0
              have z1 : (wr.alloc (.cells #[.int .i64 0, .int .i64 0, .slice none 0 0] 46)).cell? ⟨wr.heap.size, 1, none⟩ = some (.int .i64 0) := hb.at_ 1
              have z2 : (wr.alloc (.cells #[.int .i64 0, .int .i64 0, .slice none 0 0] 46)).cell? ⟨wr.heap.size, 2, none⟩ = some (.slice none 0 0) := hb.at_ 2
              have hm1 : (k : Int) < (((n - j) : Nat) : Int) := by omega
              have HS := hid hsame
              clear hb he hle hsame
              have HC := hid (clone_any _ _ e (HE.out.same (HS.out.alloc (.cells #[.int .i64 e.t, .int .i64 e.k, .slice e.A e.m e.c] 46))) he8)
              have hGlt := (HCl.out.cell hkm).2.2.2.2
              unfold En.val at HC
              go_wp2_with (first
                | (go_at_call 39; refine HC.out.mono ?_; rintro e' w2 ⟨B, d, rfl, he2, hk2⟩
                   unfold En.val
                   have HC2 := hid (HCl.out.keep (((Keep.refl _ wr).alloc _).then hk2))
                   obtain ⟨⟨u0, hu0⟩, ⟨u1, hu1⟩, ⟨u2, hu2⟩, hf, _⟩ := HC2.out.cell hkm
                   have g0 := hf (k * 3)
                   have g1 := hf (k * 3 + 1)
                   have g2 := hf (k * 3 + 2)
                   have HE2 := hid he2
                   clear hf he2 hk2))
              go_roundw
              case rel => exact ⟨k + 1, by omega, by go_num, hid (HC2.out.put hkm (Nat.le_refl _) HP.out (x := ⟨e.t, e.k, B, e.m, d, e.body⟩) (HE2.out.wide (fun i _ hs => by simp; omega)) rfl)⟩
              case measure => simp [RowKit.intOf]; omega
            · obtain rfl : k = (n - j) := by omega
              go_wp2_with fail
              go_ret
              exact HCl.out.done (Nat.le_refl _) Hm.out.symm _ rfl
end Go.Proofs.Ytbellndcgagclaa

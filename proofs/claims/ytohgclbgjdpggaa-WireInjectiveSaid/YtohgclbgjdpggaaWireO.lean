import Derived.Test.YtohgclbgjdpggaaWireN
namespace Go.Proofs.Ytohgclbgjdpggaa
open Go.RowKit

def wt (t : Tg) : Nat := 1 + t.d.length + t.l.length
def wsum (l : List Tg) : Nat := (l.map wt).sum
def kindOk (t : Tg) : Bool := decide (0 ≤ t.k) && decide (t.k ≤ 4)
def fewB (l : List Tg) : Bool := decide (wsum l ≤ 400) && l.all kindOk
theorem wsum_app (l m : List Tg) : wsum (l ++ m) = wsum l + wsum m := by simp [wsum]
theorem wsum_take (l : List Tg) (k : Nat) : wsum (l.take k) ≤ wsum l := by
  have := wsum_app (l.take k) (l.drop k)
  rw [List.take_append_drop] at this
  omega
/-- values that were read, whatever they are -/
structure Tr (w : World) (Av : Nat → Prop) (B : Option Addr) (m : Nat) (xs : List Tm) : Prop where
  sl : Sl w Av 5 B m (tFlat xs)
  el : ∀ x ∈ xs, TmOk w Av x
  sz : ∀ x ∈ xs, x.s.size ≤ 281474976710656 ∧ x.m ≤ 281474976710656 ∧ i64ok x.n ∧ ∀ e ∈ x.l, i64ok e
theorem Tr.len {w : World} {Av : Nat → Prop} {B : Option Addr} {m : Nat} {xs : List Tm} (h : Tr w Av B m xs) : xs.length = m := by
  have := h.sl.len; rw [tFlat, flat_len Tm.cells 5 (fun _ => rfl)] at this; omega
theorem Tr.same {Av : Nat → Prop} {w w' : World} {B : Option Addr} {m : Nat} {xs : List Tm} (h : Tr w Av B m xs) (hk : Same w w') : Tr w' Av B m xs :=
  ⟨h.sl.same hk, fun x hx => (h.el x hx).same hk, h.sz⟩
theorem Tr.ts {w : World} {Av : Nat → Prop} {B : Option Addr} {m : Nat} {xs : List Tm} (h : Tr w Av B m xs) (hf : fewB (xs.map Tm.pt) = true) : Ts w Av B m xs ∧ wsum (xs.map Tm.pt) ≤ 400 ∧ m ≤ 400 := by
  unfold fewB at hf
  simp only [Bool.and_eq_true, decide_eq_true_eq, List.all_eq_true] at hf
  obtain ⟨h1, h2⟩ := hf
  have hw : ∀ x ∈ xs, wt x.pt ≤ wsum (xs.map Tm.pt) := fun x hx => by
    unfold wsum
    obtain ⟨i, hi, rfl⟩ := List.getElem_of_mem hx
    have h1 := wsum_take (xs.map Tm.pt) (i + 1)
    rw [← List.map_take, take_snoc (List.getElem?_eq_getElem hi), List.map_append, wsum_app] at h1
    have h2 : wsum (([xs[i]] : List Tm).map Tm.pt) = wt xs[i].pt := by simp [wsum]
    rw [h2] at h1
    show wt xs[i].pt ≤ wsum (xs.map Tm.pt)
    omega
  refine ⟨⟨h.sl, h.el, fun x hx => ?_⟩, h1, ?_⟩
  · have hk := h2 x.pt (List.mem_map_of_mem hx)
    have hx' := hw x hx
    unfold kindOk at hk
    unfold wt at hx'
    simp only [Bool.and_eq_true, decide_eq_true_eq] at hk
    obtain ⟨_, _, s3, s4⟩ := h.sz x hx
    exact ⟨hk.1, hk.2, s3, by omega, by omega, s4⟩
  · have hl := h.len
    have : ∀ l : List Tm, l.length ≤ wsum (l.map Tm.pt) := by
      intro l
      induction l with
      | nil => simp
      | cons a l ih => simp only [wsum, List.map_cons, List.sum_cons, List.length_cons] at ih ⊢; unfold wt at *; omega
    have := this xs
    omega
theorem Tr.at5 {w : World} {Av : Nat → Prop} {B : Option Addr} {m : Nat} {xs : List Tm} (h : Tr w Av B m xs) {k : Nat} {x : Tm} (hx : xs[k]? = some x) : ∃ b off, B = some ⟨b, off, none⟩ ∧ b < w.heap.size ∧
    w.cell? ⟨b, off + k * 5, none⟩ = some (.int .i64 x.k) ∧ w.cell? ⟨b, off + k * 5 + 1, none⟩ = some (.int .i64 x.n) ∧ w.cell? ⟨b, off + k * 5 + 2, none⟩ = some (.bool x.b) ∧ w.cell? ⟨b, off + k * 5 + 3, none⟩ = some (.string x.s) ∧ w.cell? ⟨b, off + k * 5 + 4, none⟩ = some (.slice x.A x.m x.c) := by
  have hk := (List.getElem?_eq_some_iff.1 hx).1
  obtain ⟨b, off, e, hb, _, hr⟩ := h.sl.at_ (by have := h.len; omega)
  have g := fun j (hj : j < 5) u (hu : x.cells[j]? = some u) => hr (k * 5 + j) u (by rw [tFlat_get xs k j hj, hx]; exact hu)
  exact ⟨b, off, e, hb, g 0 (by omega) _ rfl, g 1 (by omega) _ rfl, g 2 (by omega) _ rfl, g 3 (by omega) _ rfl, g 4 (by omega) _ rfl⟩

set_option maxHeartbeats 4000000 in
theorem few_any (w : World) (Av : Nat → Prop) (B : Option Addr) (m d : Nat) (xs : List Tm) (h : Tr w Av B m xs) (hm : m ≤ 281474976710656) :
    Calls Try.prog 16 #[.slice B m d] w fun e w' => e = .returned (.bool (fewB (xs.map Tm.pt))) ∧ Same w w' := by
  have H := hid h
  have HL := hid h.len
  obtain ⟨dd, hdd⟩ : ∃ dd, fewB (xs.map Tm.pt) = dd := ⟨_, rfl⟩
  rw [hdd]
  have HD := hid hdd.symm
  clear hdd h
  go_enter Try.func16, Try.ntmps16
  go_wp2
  go_loopw [3, 4] (fun a i wr => ∃ k : Nat, k ≤ m ∧ i = .int .i64 k ∧ (∃ s : Nat, a = .int .i64 s ∧ s = wsum ((xs.take k).map Tm.pt) ∧ s ≤ 400) ∧ ((xs.take k).map Tm.pt).all kindOk = true ∧ Same w wr) (fun _ i _ => m - (RowKit.intOf i).toNat)
  case atStart => exact ⟨0, by omega, rfl, ⟨0, rfl, by simp [wsum], by omega⟩, by simp, Keep.refl _ _⟩
  case round =>
    obtain ⟨k, hkm, rfl, ⟨s, rfl, hs, hs4⟩, hall, hKr⟩ := hrel
    have HS := hid hs
    have HA := hid hall
    have HKr := hid hKr
    by_cases hlt : k < m
    · obtain ⟨x, hx⟩ := get_some (l := xs) (k := k) (by have := HL.out; omega)
      obtain ⟨b, off, rfl, hb, q0, q1, q2, q3, q4⟩ := (H.out.same hKr).at5 hx
      obtain ⟨z1, z2, _, _⟩ := H.out.sz x (List.mem_of_getElem? hx)
      have hxl := (H.out.el x (List.mem_of_getElem? hx)).len
      have hdl : x.s.data.toList.length = x.s.size := Array.length_toList
      have HN := hid (show wsum ((xs.take (k + 1)).map Tm.pt) = s + 1 + x.s.size + x.m by
        rw [take_snoc hx, List.map_append, wsum_app, ← hs]
        simp only [List.map_cons, List.map_nil, wsum, List.sum_cons, List.sum_nil, wt, Tm.pt, hdl, hxl]; omega)
      have HM := hid (show ((xs.take (k + 1)).map Tm.pt).all kindOk = kindOk x.pt by
        rw [take_snoc hx, List.map_append, List.all_append, hall]; simp)
      have hji : (0 : Int) ≤ k := by omega
      have hji2 : (k : Int) < m := by omega
      clear hs hall hKr hx hxl hdl
      obtain ⟨kk, n, bo, st, C, cm, cc, l⟩ := x
      simp only at q0 q1 q2 q3 q4 z1 z2 HN
      have HM2 := hid (show kindOk (Tm.pt ⟨kk, n, bo, st, C, cm, cc, l⟩) = (decide (0 ≤ kk) && decide (kk ≤ 4)) from rfl)
      by_cases hbig : 400 < s + 1 + st.size + cm
      · have HF : Hid (dd = false) := hid (by
          rw [HD.out]
          unfold fewB
          have := wsum_take (xs.map Tm.pt) (k + 1)
          rw [← List.map_take, HN.out] at this
          rw [decide_eq_false (by omega)]; rfl)
        have hbi : (400 : Int) < s + 1 + st.size + cm := by omega
        have hw1 : wrap64 ((s : Int) + 1 + st.size) = s + 1 + st.size := IntWalk.wrap64_in _ (by omega)
        have hw2 : wrap64 ((s : Int) + 1 + st.size + cm) = s + 1 + st.size + cm := IntWalk.wrap64_in _ (by omega)
        go_wp2
        go_quiet (fail)
        go_wp2
        go_ret
        exact ⟨by rw [HF.out]; rfl, HKr.out.drewN _⟩
      · have hbi : (s : Int) + 1 + st.size + cm ≤ 400 := by omega
        have hw1' := hid (show wrap64 ((s : Int) + 1 + st.size) = s + 1 + st.size from IntWalk.wrap64_in _ (by omega))
        have hw2' := hid (show wrap64 ((s : Int) + 1 + st.size + cm) = s + 1 + st.size + cm from IntWalk.wrap64_in _ (by omega))
        by_cases hk0 : kk < 0
        · have HF : Hid (dd = false) := hid (by
            rw [HD.out]
            unfold fewB
            have ht := HM.out
            rw [HM2.out, decide_eq_false (by omega), Bool.false_and] at ht
            have hsp := List.take_append_drop (k + 1) xs
            rw [← hsp, List.map_append, List.all_append, ht]; simp)
          have hw1 := hw1'.out
          have hw2 := hw2'.out
          go_wp2
          go_quiet (fail)
          clear hw1 hw2
          go_wp2
          go_ret
          exact ⟨by rw [HF.out]; rfl, HKr.out.drewN _⟩
        · by_cases hk4 : 4 < kk
          · have HF : Hid (dd = false) := hid (by
              rw [HD.out]
              unfold fewB
              have ht := HM.out
              rw [HM2.out, decide_eq_false (p := kk ≤ 4) (by omega), Bool.and_false] at ht
              have hsp := List.take_append_drop (k + 1) xs
              rw [← hsp, List.map_append, List.all_append, ht]; simp)
            have hw1 := hw1'.out
            have hw2 := hw2'.out
            go_wp2
            go_quiet (fail)
            clear hw1 hw2
            go_wp2
            go_ret
            exact ⟨by rw [HF.out]; rfl, HKr.out.drewN _⟩
          · have hw1 := hw1'.out
            have hw2 := hw2'.out
            go_wp2
            go_quiet (fail)
            clear hw1 hw2
            go_wp2
            go_roundw
            case rel => exact ⟨k + 1, by omega, by go_num, ⟨s + 1 + st.size + cm, by go_num, HN.out.symm, by omega⟩, by rw [HM.out, HM2.out]; simp; omega, HKr.out.drewN _⟩
            case measure => simp [RowKit.intOf]; omega
    · have e1 : xs.take k = xs := List.take_of_length_le (by have := HL.out; omega)
      have HF : Hid (dd = true) := hid (by
        rw [HD.out]
        unfold fewB
        rw [e1] at hs hall
        rw [hall, decide_eq_true (by omega)]; rfl)
      clear hs hall hKr e1
      go_wp2
      go_ret
      exact ⟨by rw [HF.out]; rfl, HKr.out⟩
/-- the post of Only -/
def OnlyPost (w : World) (t : Tg) (e : Ending) (w' : World) : Prop :=
  ∃ y : Tm, e = .returned (.agg y.cells.toArray) ∧ y.pt = onlyT t ∧ y.m ≤ 1000000 ∧ TmOk w' (fun i => w.heap.size ≤ i) y ∧ Same w w'

set_option maxHeartbeats 4000000 in
theorem only_any (w : World) (Av : Nat → Prop) (x : Tm) (hx : TmOk w Av x) (hm : x.m ≤ 1000000) (h0 : 0 ≤ x.k) (h4 : x.k ≤ 4) :
    Calls Try.prog 18 #[.agg x.cells.toArray] w (OnlyPost w x.pt) := by
  have HX := hid hx.old
  obtain ⟨k, n, b, s, A, m, c, l⟩ := x
  simp only [Tm.cells, Tm.pt] at h0 h4 hm ⊢
  clear hx
  have hk : k = 0 ∨ k = 1 ∨ k = 2 ∨ k = 3 ∨ k = 4 := by omega
  clear h0 h4
  rcases hk with rfl | rfl | rfl | rfl | rfl
  · go_enter Try.func18, Try.ntmps18
    go_wp2
    refine bodyPost_ret (v := .agg (Tm.cells ⟨0, n, false, ⟨#[]⟩, none, 0, 0, []⟩).toArray) (by simp [results, Try.results18, go_sem, Tm.cells]) rfl ?_
    exact ⟨⟨0, n, false, ⟨#[]⟩, none, 0, 0, []⟩, rfl, rfl, Nat.zero_le _, ⟨Sl.nil _ _ _ _⟩, ((Keep.refl _ w).alloc _).alloc _⟩
  · go_enter Try.func18, Try.ntmps18
    go_wp2
    refine bodyPost_ret (v := .agg (Tm.cells ⟨1, 0, b, ⟨#[]⟩, none, 0, 0, []⟩).toArray) (by simp [results, Try.results18, go_sem, Tm.cells]) rfl ?_
    exact ⟨⟨1, 0, b, ⟨#[]⟩, none, 0, 0, []⟩, rfl, rfl, Nat.zero_le _, ⟨Sl.nil _ _ _ _⟩, ((Keep.refl _ w).alloc _).alloc _⟩
  · go_enter Try.func18, Try.ntmps18
    go_wp2
    refine bodyPost_ret (v := .agg (Tm.cells ⟨2, 0, false, s, none, 0, 0, []⟩).toArray) (by simp [results, Try.results18, go_sem, Tm.cells]) rfl ?_
    exact ⟨⟨2, 0, false, s, none, 0, 0, []⟩, rfl, rfl, Nat.zero_le _, ⟨Sl.nil _ _ _ _⟩, ((Keep.refl _ w).alloc _).alloc _⟩
  · go_enter Try.func18, Try.ntmps18
    go_wp2
    refine bodyPost_ret (v := .agg (Tm.cells ⟨3, 0, false, s, none, 0, 0, []⟩).toArray) (by simp [results, Try.results18, go_sem, Tm.cells]) rfl ?_
    exact ⟨⟨3, 0, false, s, none, 0, 0, []⟩, rfl, rfl, Nat.zero_le _, ⟨Sl.nil _ _ _ _⟩, ((Keep.refl _ w).alloc _).alloc _⟩
  · go_enter Try.func18, Try.ntmps18
    go_wp2
    refine bodyPost_ret (v := .agg (Tm.cells ⟨4, 0, false, ⟨#[]⟩, A, m, c, l⟩).toArray) (by simp [results, Try.results18, go_sem, Tm.cells]) rfl ?_
    exact ⟨⟨4, 0, false, ⟨#[]⟩, A, m, c, l⟩, rfl, rfl, hm, ⟨HX.out.sl.same (((Keep.refl _ w).alloc _).alloc _)⟩, ((Keep.refl _ w).alloc _).alloc _⟩
end Go.Proofs.Ytohgclbgjdpggaa
